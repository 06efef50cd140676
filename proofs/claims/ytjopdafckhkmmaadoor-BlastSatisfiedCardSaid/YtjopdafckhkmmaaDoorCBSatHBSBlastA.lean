/- The inputs of a circuit that is being made: rows and the map. -/
import Derived.Test.YtjopdafckhkmmaaDoorCBSatHBSTotal
import Derived.Test.YtjopdafckhkmmaaDoorCBSatHBSTermVs
set_option linter.unusedVariables false
set_option linter.unusedSimpArgs false
namespace Go.Proofs.YtjopdafckhkmmaaDoor.MBS
open Go.Proofs.YtjopdafckhkmmaaDoor.Zed Go.RowKit Go.Proofs.YtjopdafckhkmmaaDoorW.PrintWords Go.Proofs.YtjopdafckhkmmaaDoorW.PrintLast Go.Proofs.YtjopdafckhkmmaaDoorW.PrintMore
open Go.Maps (has IsMap Keyed)
attribute [local go_sem] Oper.semAt_some
abbrev Ci := S44
abbrev kC := k44
/-- The place of an input, counted from the end of the row turned round. -/
def insR : List Ci → ByteArray → Int → Option Nat
  | [], _, _ => none
  | x :: r, s, b => if x.f0 = s ∧ x.f1 = b then some r.length else insR r s b
def insAt (ins : List Ci) (s : ByteArray) (b : Int) : Option Nat := insR ins.reverse s b
theorem insAt_snoc (ins : List Ci) (x : Ci) (s : ByteArray) (b : Int) : insAt (ins ++ [x]) s b = if x.f0 = s ∧ x.f1 = b then some ins.length else insAt ins s b := by
  simp [insAt, insR]
theorem insR_some : ∀ (l : List Ci) (s : ByteArray) (b : Int), (∃ x ∈ l, x.f0 = s ∧ x.f1 = b) → ∃ j, insR l s b = some j ∧ j < l.length
  | [], s, b, h => by obtain ⟨_, h, _⟩ := h; simp at h
  | x :: r, s, b, h => by
    rw [insR]
    by_cases hx : x.f0 = s ∧ x.f1 = b
    · rw [if_pos hx]; exact ⟨_, rfl, by simp⟩
    · rw [if_neg hx]
      obtain ⟨y, hy, hm⟩ := h
      rcases List.mem_cons.1 hy with rfl | hy
      · exact absurd hm hx
      · obtain ⟨j, h1, h2⟩ := insR_some r s b ⟨y, hy, hm⟩
        exact ⟨j, h1, by simp; omega⟩
theorem insAt_some {ins : List Ci} {s : ByteArray} {b : Int} (h : ∃ x ∈ ins, x.f0 = s ∧ x.f1 = b) : ∃ j, insAt ins s b = some j ∧ j < ins.length := by
  obtain ⟨j, h1, h2⟩ := insR_some ins.reverse s b (by obtain ⟨x, hx, hm⟩ := h; exact ⟨x, by simpa using hx, hm⟩)
  exact ⟨j, h1, by simpa using h2⟩
/-- The literal of an input. -/
def atIns (ins : List Ci) (s : ByteArray) (b : Int) : Int := match insAt ins s b with
  | some i => 2 * (i + 1 : Nat)
  | none => 0
/-- The map of the inputs. -/
structure IM (ins : List Ci) (D : DataW Unit) : Prop where
  isMap : IsMap D
  at_ : ∀ s b, s.size ≤ maxLen → (Lit.int .i64 b).wf = true → ∀ z, D.atKey (kyI s b) z = match insAt ins s b with
    | some i => .lit (.int .i64 (2 * (i + 1 : Nat)))
    | none => z
theorem IM.nil : IM [] (.map []) := ⟨Maps.isMap_empty, fun s b _ _ z => rfl⟩
theorem IM.put {ins : List Ci} {D : DataW Unit} (h : IM ins D) (x : Ci) (h0 : x.f0.size ≤ maxLen) (h1 : (Lit.int .i64 x.f1).wf = true) : IM (ins ++ [x]) (D.put (kyI x.f0 x.f1) (.lit (.int .i64 (2 * (ins.length + 1 : Nat))))) :=
  ⟨h.isMap.put _ _, fun s b hs hb z => by
    rw [insAt_snoc]
    by_cases e : x.f0 = s ∧ x.f1 = b
    · obtain ⟨rfl, rfl⟩ := e
      rw [if_pos ⟨rfl, rfl⟩, Maps.atKey_put_same h.isMap (show WideAt.IsKeyLit (kyI x.f0 x.f1) from trivial)]
    · rw [if_neg e, Maps.atKey_put_other (fun h' => e (by obtain ⟨e1, e2⟩ := kyI_inj hs hb h0 h1 h'; exact ⟨e1.symm, e2.symm⟩))]
      exact h.at_ s b hs hb z⟩
theorem IM.lit {ins : List Ci} {D : DataW Unit} (h : IM ins D) (s : ByteArray) (b : Int) (hs : s.size ≤ maxLen) (hb : (Lit.int .i64 b).wf = true) : D.atKey (kyI s b) (.lit (.int .i64 0)) = .lit (.int .i64 (atIns ins s b)) := by
  rw [h.at_ s b hs hb, atIns]
  cases insAt ins s b <;> rfl
/-- The inputs of variables, in order. -/
def insOf (vs : List Bg) : List Ci := vs.flatMap fun v => (List.range v.f1.toNat).map fun (i : Nat) => .mk v.f0 i
theorem insOf_snoc (vs : List Bg) (v : Bg) : insOf (vs ++ [v]) = insOf vs ++ (List.range v.f1.toNat).map fun (i : Nat) => .mk v.f0 i := by simp [insOf]
/-- The maker while its inputs are laid. -/
structure BI (nb : Nat) (W1 W : World) (g bs ba : Nat) (ins : List Ci) : Prop where
  block : ∃ vI, W.heap[g]? = some (.cells #[vI, .slice none 0 0, .slice none 0 0, .map (some bs), .map (some ba)] 70 (0, 0)) ∧ kC.R 44 W nb (fun _ => True) vI ins
  mapS : W.ownsMap Tryd.prog 49 (plainElem Tryd.prog 3) bs 0 (.map [] : DataW Unit)
  mapA : ∃ D : DataW Unit, W.ownsMap Tryd.prog 44 (plainElem Tryd.prog 3) ba ins.length D ∧ IM ins D
  below : Below nb W1 W
  hg : nb ≤ g
  hs : nb ≤ bs
  ha : nb ≤ ba
theorem BI.keep {nb : Nat} {W1 W W' : World} {g bs ba : Nat} {ins : List Ci} (h : BI nb W1 W g bs ba ins) (hb : Below W.heap.size W W') (hn : nb ≤ W.heap.size) : BI nb W1 W' g bs ba ins := by
  obtain ⟨⟨vI, h1, h2⟩, ⟨es, c, h3, h4⟩, ⟨D, ⟨es2, c2, h5, h6⟩, h7⟩, h8, h9, h10, h11⟩ := h
  exact ⟨⟨vI, blk_below h1 hb, Kd.R_below h2 hb⟩, ⟨es, c, blk_below h3 hb, h4⟩, ⟨D, ⟨es2, c2, blk_below h5 hb, h6⟩, h7⟩, h8.trans (hb.mono hn), h9, h10, h11⟩
theorem BI.alloc {nb : Nat} {W1 W : World} {g bs ba : Nat} {ins : List Ci} (h : BI nb W1 W g bs ba ins) (hn : nb ≤ W.heap.size) (o : Obj) : BI nb W1 (W.alloc o) g bs ba ins := h.keep (below_alloc (Below.refl _ _) _) hn
theorem infoI : (Tryd.prog.info? 44).map (fun i => (i.zero, i.size, i.bytes)) = some (some (.agg #[.string ⟨#[]⟩, .int .i64 0]), 2, 24) := by kernel_rfl
theorem kC_kept {α : Type} {d : Kd α} {e base : Nat} {w w1 : World} {v : Value} {xs : List α} {r : Nat} (h : d.R e w base (fun _ => True) v xs) (hg : w.grownBy w1 (some r)) (hr : ∀ o, w.heap[r]? = some o → ∀ cs q, o = .cells cs q (0, 0) → q ∉ e :: d.E) : d.R e w1 base (fun _ => True) v xs :=
  Kd.R_mono (Kd.R_move (Kd.R_bound h) (fun k hk => by
    obtain ⟨_, _, hlt, q, hq, cells, hc⟩ := hk
    refine hg.block k hlt (fun e => ?_)
    cases e
    exact hr _ hc _ _ rfl hq)) (fun _ _ => trivial)
end Go.Proofs.YtjopdafckhkmmaaDoor.MBS
