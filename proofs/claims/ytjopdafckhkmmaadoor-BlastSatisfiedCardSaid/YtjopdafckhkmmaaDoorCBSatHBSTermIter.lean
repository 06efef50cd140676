/- The nodes of a term, as term.nodes hands them on: the contract of the recursive iterator (visit), of the closure and of what makes it. No condition. -/
import Derived.Test.YtjopdafckhkmmaaDoorCBSatMBSx0
import Derived.Outline
import Derived.RangeFuncNested
import Derived.RangeFuncWrites
import Derived.RangeFuncBound
import Derived.RangeFuncCalls
import Derived.RangeFuncLeaves
import Derived.Shelf.Abstract
import Derived.OwnWalkIn
import Derived.TacticsInMore
import Derived.LoopNIn
import Derived.LoopIn
set_option linter.unusedVariables false
set_option linter.unusedSimpArgs false
namespace Go.Proofs.YtjopdafckhkmmaaDoor.MBS
open Go.Proofs.YtjopdafckhkmmaaDoor.Zed Go.RowKit Go.Proofs.YtjopdafckhkmmaaDoorW.PrintWords Go.Proofs.YtjopdafckhkmmaaDoorW.PrintLast Go.Proofs.YtjopdafckhkmmaaDoorW.PrintMore
attribute [local go_sem] Oper.semAt_some

abbrev Tm := S25
abbrev kT := k25
/- The nodes of a term, a node ahead of its parts. -/
mutual
def nd : Tm → List Tm
  | .mk a b c d e l => .mk a b c d e l :: ndL l
def ndL : List Tm → List Tm
  | [] => []
  | x :: r => nd x ++ ndL r
end
theorem nd_eq (x : Tm) : nd x = x :: ndL x.f5 := by cases x; rw [nd]
theorem ndL_append : ∀ a b : List Tm, ndL (a ++ b) = ndL a ++ ndL b
  | [], b => by simp [ndL]
  | x :: a, b => by simp [ndL, ndL_append a b]
theorem ndL_take_succ (l : List Tm) (i : Nat) (h : i < l.length) : ndL (l.take (i + 1)) = ndL (l.take i) ++ nd l[i] := by
  rw [List.take_succ_eq_append_getElem h, ndL_append]
  simp [ndL]
theorem ndL_len (l : List Tm) (i : Nat) (h : i < l.length) : (ndL (l.take i)).length + (nd l[i]).length ≤ (ndL l).length := by
  have h1 := congrArg List.length (ndL_take_succ l i h)
  have h2 : (ndL (l.take (i + 1))).length ≤ (ndL l).length := by
    conv => rhs; rw [← List.take_append_drop (i + 1) l, ndL_append]
    simp
  rw [List.length_append] at h1
  omega
theorem ndL_prefix (l : List Tm) (i : Nat) (h : i < l.length) (q : List Tm) (hq : q <+: nd l[i]) : ndL (l.take i) ++ q <+: ndL l := by
  obtain ⟨r, hr⟩ := hq
  refine ⟨r ++ ndL (l.drop (i + 1)), ?_⟩
  conv => rhs; rw [← List.take_append_drop (i + 1) l, ndL_append, ndL_take_succ l i h, ← hr]
  simp

theorem ndL_mem (l : List Tm) (i : Nat) (h : i < l.length) (y : Tm) (hy : y ∈ nd l[i]) : y ∈ ndL l := by
  obtain ⟨r, hr⟩ := ndL_prefix l i h _ (List.prefix_refl _)
  rw [← hr]
  simp [hy]
/-- A node that is read in the world w0: the value and its cells; of which P holds. -/
def Nd (w0 : World) (P : Tm → Prop) := { p : Tm × Array Value // kT.K w0 p.1 p.2.toList ∧ P p.1 }
/-- What a round that goes on keeps: what lies below n₀, and the cells from B on. -/
structure KpB (n₀ B : Nat) (W W' : World) : Prop where
  below : Below n₀ W W'
  cells : ∀ (k : Nat) (o : Obj), B ≤ k → W.heap[k]? = some o → o.isCells = true → W'.heap[k]? = some o
theorem KpB.refl (n₀ B : Nat) (W : World) : KpB n₀ B W W := ⟨Below.refl _ _, fun _ _ _ h _ => h⟩
theorem KpB.trans {n₀ B : Nat} {X Y Z : World} (h : KpB n₀ B X Y) (k : KpB n₀ B Y Z) : KpB n₀ B X Z := ⟨h.below.trans k.below, fun i o hi ho hc => k.cells i o hi (h.cells i o hi ho hc) hc⟩
theorem KpB.alloc {n₀ B : Nat} {X W : World} (h : KpB n₀ B X W) (hn : n₀ ≤ W.heap.size) (o : Obj) : KpB n₀ B X (W.alloc o) :=
  h.trans ⟨(Below.refl n₀ W).alloc hn o, fun k o' _ ho _ => (Below.heap_alloc W o k (Array.getElem?_eq_some_iff.1 ho).1).trans ho⟩
theorem KpB.drew {n₀ B : Nat} {X W : World} (h : KpB n₀ B X W) : KpB n₀ B X W.drew := h.trans ⟨(Below.refl n₀ W).drew, fun _ _ _ ho _ => ho⟩
theorem KpB.drewN {n₀ B : Nat} {X W : World} (h : KpB n₀ B X W) (m : Nat) : KpB n₀ B X (W.drewN m) := h.trans ⟨pw_below_drewN (Below.refl n₀ W) m, fun _ _ _ ho _ => ho⟩
theorem KpB.setCell {n₀ B : Nat} {X W : World} (h : KpB n₀ B X W) (b i : Nat) (hn : n₀ ≤ b) (hB : b < B) (v : Value) : KpB n₀ B X (W.setCell ⟨b, i, none⟩ v) :=
  h.trans ⟨(Below.refl n₀ W).setCell (p := ⟨b, i, none⟩) hn v, fun k o hk ho _ => (Below.heap_setCell W ⟨b, i, none⟩ v k (by show k ≠ b; omega)).trans ho⟩
theorem KpB.grown {n₀ B : Nat} {X W W' : World} (h : KpB n₀ B X W) {row : Option Nat} (hg : W.grownBy W' row) (hn : n₀ ≤ W.heap.size) (hr : ∀ k, row = some k → n₀ ≤ k ∧ k < B) : KpB n₀ B X W' :=
  h.trans ⟨(Below.refl n₀ W).grown hg hn (fun k e => (hr k e).1), fun k o hk ho _ => (hg.block k (Array.getElem?_eq_some_iff.1 ho).1 (fun e => by have := (hr k e.symm).2; omega)).trans ho⟩
/-- What a call keeps that only lays new blocks. -/
theorem KpB.below' {n₀ B : Nat} {X W W' : World} (h : KpB n₀ B X W) (hb : Below W.heap.size W W') (hn : n₀ ≤ W.heap.size) : KpB n₀ B X W' :=
  h.trans ⟨hb.mono hn, fun k o _ ho _ => (hb.block k (Array.getElem?_eq_some_iff.1 ho).1).trans ho⟩
theorem kpB_b {n₀ B : Nat} (hn : n₀ ≤ B) (W : World) (l : Nat) (o o' : Obj) (hl : B ≤ l) (h : W.heap[l]? = some o) (hc : o.isCells = false) (_ : o.isWalk = false) : KpB n₀ B W (W.putObj l o') :=
  ⟨(Below.refl n₀ W).grown (grownBy_putObj' W l o') (by have := (Array.getElem?_eq_some_iff.1 h).1; omega) (fun k e => by cases e; omega), fun k ob hk ho hob => (World.putObj_heap_other (fun e => by subst e; rw [h] at ho; cases ho; rw [hc] at hob; cases hob)).trans ho⟩

set_option maxRecDepth 100000 in
set_option maxHeartbeats 2000000 in
theorem visit_in (l n₀ B N : Nat) (w0 : World) (P : Tm → Prop) (hn₀ : n₀ = w0.heap.size) (hB : n₀ ≤ B) (J Jx : List (Nd w0 P) → World → Prop) {M : Nat} (hJ : AbidesFrom M J)
    (hY : ∀ (m : Nat) (pre : List (Nd w0 P)) (x : Nd w0 P) (W : World), J pre W → pre.length < N → YieldAt Fence.wide m Tryd.prog l #[.agg x.1.2] W fun e W' =>
      (e = .returned (.bool true) ∧ J (pre ++ [x]) W' ∧ KpB n₀ B W W') ∨ (e = .returned (.bool false) ∧ Jx (pre ++ [x]) W')) :
    ∀ (k n : Nat) (x : Tm) (cs : List Value) (pre : List (Nd w0 P)) (W : World), (nd x).length ≤ k → (∀ y ∈ nd x, P y) → kT.K w0 x cs → Below n₀ w0 W → B ≤ W.heap.size → J pre W → pre.length + (nd x).length ≤ N →
      CallsIn Fence.wide n Tryd.prog 59 #[.agg cs.toArray, .func (.yield l) #[] #[]] W fun e W' =>
        (e = .returned (.bool true) ∧ ∃ ys : List (Nd w0 P), ys.map (·.1.1) = nd x ∧ J (pre ++ ys) W' ∧ KpB n₀ B W W') ∨ (e = .returned (.bool false) ∧ ∃ ys : List (Nd w0 P), ys.map (·.1.1) <+: nd x ∧ Jx (pre ++ ys) W') := by
  intro k
  induction k with
  | zero => intro n x cs pre W hk hP; rw [nd_eq] at hk; simp at hk
  | succ k ih =>
    intro n x cs pre W hk hP hK hb hBW hJ0 hN
    have hPx : P x := hP x (by rw [nd_eq]; simp)
    obtain ⟨A5, c5, rfl, l5, g5⟩ := k25_open hK
    have hnW : n₀ ≤ W.heap.size := Nat.le_trans hB hBW
    have hu25 := Tryd.underlying25
    obtain ⟨Wa, hWa⟩ : ∃ Wa, Wa = W.alloc (.cells #[.int .u8 x.f0, .int .i64 x.f1, .int .u64 x.f2, .string x.f3, .int .i64 x.f4, .slice A5 x.f5.length c5] 25) := ⟨_, rfl⟩
    have hJa : J pre Wa := by rw [hWa]; exact hJ _ _ _ none hJ0 (World.grownBy_alloc W _ none) (fun r e => by cases e)
    obtain ⟨fn, tmps, assign, body, hy, hR⟩ := hY (n - 1) pre ⟨(x, #[.int .u8 x.f0, .int .i64 x.f1, .int .u64 x.f2, .string x.f3, .int .i64 x.f4, .slice A5 x.f5.length c5]), hK, hPx⟩ Wa hJa (by rw [nd_eq] at hN; simp at hN; omega)
    dsimp only at hy
    rw [hWa] at hy hR
    clear hWa hJa
    refine callsIn_of_wp Tryd.func59 rfl trivial ?_ rfl
    simp only [Tryd.ntmps59, List.size_toArray, List.length_cons, List.length_nil, Nat.reduceAdd, Nat.reduceSub, Array.replicate_succ, Array.replicate_zero, List.push_toArray, List.append_toArray, List.nil_append, List.cons_append]
    gi_wp2
    refine ⟨fun h => (by cases h), ?_⟩
    refine hR.mono ?_
    rintro e W1 (⟨rfl, hJ1, hk1⟩ | ⟨rfl, hJx1⟩)
    · have hK1 : KpB n₀ B W W1 := ((KpB.refl n₀ B W).alloc hnW _).trans hk1
      have hbox : W1.heap[W.heap.size]? = some (.cells #[.int .u8 x.f0, .int .i64 x.f1, .int .u64 x.f2, .string x.f3, .int .i64 x.f4, .slice A5 x.f5.length c5] 25 (0, 0)) := hk1.cells _ _ hBW (blk_new W _) rfl
      have hb5 : W1.cell? ⟨W.heap.size, 5, none⟩ = some (.slice A5 x.f5.length c5) := (blk_cell hbox 5).trans rfl
      have hm := g5.2.1
      obtain ⟨sub, hsub⟩ : ∃ sub, sub = x.f5 := ⟨_, rfl⟩
      have hnd : nd x = x :: ndL sub := by rw [hsub]; exact nd_eq x
      rw [← hsub] at g5 l5 hm hb5 hK
      obtain ⟨z, hz, hJ1⟩ : ∃ z : Nd w0 P, z.1.1 = x ∧ J (pre ++ [z]) W1 := ⟨_, rfl, hJ1⟩
      have HZ1 := Aside0.mk hz
      clear hz
      have HJ1 := Aside0.mk hJ1
      have HK1 := Aside0.mk hK1
      have HG := Aside0.mk g5
      have HB := Aside0.mk hb
      have HN := Aside0.mk hN
      have HK := Aside0.mk hk
      have HND := Aside0.mk hnd
      have HI := Aside0.mk ih
      have HPA := Aside0.mk hP
      have HJ := Aside0.mk hJ
      clear hbox hR hy hY hJ0 hk1 g5 hb hN hk hnd hJ1 hK1 ih hJ
      rw [← hsub]
      clear hsub
      gi_wp2
      gi_loopw [14] (fun v14 wr => ∃ (i : Nat) (ys : List (Nd w0 P)), v14 = .int .i64 i ∧ i ≤ sub.length ∧ Aside0 (ys.map (·.1.1) = x :: ndL (sub.take i)) ∧ Aside0 (J (pre ++ ys) wr) ∧ Aside0 (KpB n₀ B W wr)) (fun v14 _ => sub.length - (intOf v14).toNat)
      case atStart => exact ⟨0, [z], rfl, Nat.zero_le _, ⟨by simp [HZ1.out, ndL]⟩, HJ1, HK1⟩
      case round =>
        obtain ⟨i, ys, rfl, hi, HY, HJ2, HK2⟩ := hrel
        by_cases hlt : i < sub.length
        · obtain ⟨ad, A', c', rfl, q0, q1, q2, q3, q4, q5, l', g'⟩ := at_T25 HG.out (i : Int) q29_ q29_
          have hrd : rd_T25 sub (i : Int) = sub[i] := by simp [rd_T25, List.getD_eq_getElem?_getD, hlt]
          rw [hrd] at q0 q1 q2 q3 q4 q5 l' g'
          have hKi := k25_mk w0 sub[i] l' g'
          have hbw : Below w0.heap.size w0 wr := by have := HB.out.trans HK2.out.below; rwa [hn₀] at this
          replace q0 := (hbw.cell (World.block_lt_of_cell? w0 _ q0)).trans q0
          replace q1 := (hbw.cell (World.block_lt_of_cell? w0 _ q1)).trans q1
          replace q2 := (hbw.cell (World.block_lt_of_cell? w0 _ q2)).trans q2
          replace q3 := (hbw.cell (World.block_lt_of_cell? w0 _ q3)).trans q3
          replace q4 := (hbw.cell (World.block_lt_of_cell? w0 _ q4)).trans q4
          replace q5 := (hbw.cell (World.block_lt_of_cell? w0 _ q5)).trans q5
          simp only [Int.toNat_natCast] at q0 q1 q2 q3 q4 q5
          obtain ⟨y, hy⟩ : ∃ y, y = sub[i] := ⟨_, rfl⟩
          rw [← hy] at q0 q1 q2 q3 q4 q5 l' hKi
          have HYE := Aside0.mk hy
          have HKI := Aside0.mk hKi
          clear hy g' hrd hKi l'
          gi_wp2
          refine ⟨trivial, fun h => (by cases h), ?_⟩
          have hcnt := ndL_len sub i hlt
          have hlen := congrArg List.length HY.out
          have hbnd := HN.out
          have hkk := HK.out
          rw [HND.out] at hbnd hkk
          simp only [List.length_map, List.length_cons] at hlen hbnd hkk
          refine (HI.out (n - 1) y _ (pre ++ ys) (wr.alloc (.cells #[.int .u8 y.f0, .int .i64 y.f1, .int .u64 y.f2, .string y.f3, .int .i64 y.f4, .slice A' y.f5.length c'] 25)) (by rw [HYE.out]; omega) (fun y' hy' => HPA.out y' (by rw [HND.out]; rw [HYE.out] at hy'; exact List.mem_cons_of_mem _ (ndL_mem sub i hlt y' hy'))) HKI.out ?hB1 ?hB2 ?hJ1 (by rw [List.length_append, HYE.out]; omega)).mono ?_
          case hB1 => exact (HB.out.trans HK2.out.below).alloc (by have := HK2.out.below.size; omega) _
          case hB2 => have := HK2.out.below.size; simp; omega
          case hJ1 => exact HJ.out _ _ _ none HJ2.out (World.grownBy_alloc wr _ none) (fun r e => by cases e)
          rintro e W3 (⟨rfl, zs, hzs, hJ3, hK3⟩ | ⟨rfl, zs, hzs, hJ3⟩)
          · have HZ := Aside0.mk hzs
            have HJ3 := Aside0.mk hJ3
            have HK3 := Aside0.mk (((HK2.out.alloc (by have := HK2.out.below.size; omega) _).trans hK3 : KpB n₀ B W W3))
            clear hzs hJ3 hK3 hcnt hlen hbnd hkk
            gi_wp2
            go_roundw
            case measure => simp [intOf]; omega
            case rel => exact ⟨i + 1, ys ++ zs, by go_num, hlt, ⟨by rw [List.map_append, HY.out, HZ.out, HYE.out, ndL_take_succ sub i hlt]; rfl⟩, ⟨by rw [← List.append_assoc]; exact HJ3.out⟩, HK3⟩
          · have HZ := Aside0.mk hzs
            have HJ3 := Aside0.mk hJ3
            clear hzs hJ3 hcnt hlen hbnd hkk
            gi_wp2
            go_ret
            refine .inr ⟨rfl, ys ++ zs, ?_, by rw [← List.append_assoc]; exact HJ3.out⟩
            rw [List.map_append, HY.out, HND.out]
            have h1 := HZ.out
            rw [HYE.out] at h1
            obtain ⟨r, hr⟩ := ndL_prefix sub i hlt _ h1
            exact ⟨r, by rw [← hr]; simp⟩
        · have hie : i = sub.length := by omega
          gi_wp2
          go_ret
          exact .inl ⟨rfl, ys, by rw [HY.out, hie, List.take_length, HND.out], HJ2.out, HK2.out⟩
    · gi_wp2
      go_ret
      exact .inr ⟨rfl, [⟨(x, _), hK, hPx⟩], by rw [nd_eq]; exact ⟨ndL x.f5, rfl⟩, hJx1⟩

/-- 'func(yield func(api.Term) bool) { visit(t, yield) }', t captured. -/
theorem nodes1_in (l n n₀ B Bt : Nat) (w0 : World) (P : Tm → Prop) (hn₀ : n₀ = w0.heap.size) (hB : n₀ ≤ B) (J Jx : List (Nd w0 P) → World → Prop) {M : Nat} (hJ : AbidesFrom M J) (x : Tm) (cs : List Value) (hP : ∀ y ∈ nd x, P y)
    (hY : ∀ (pre : List (Nd w0 P)) (x' : Nd w0 P) (W : World), J pre W → pre.length < (nd x).length → YieldAt Fence.wide (n - 1) Tryd.prog l #[.agg x'.1.2] W fun e W' =>
      (e = .returned (.bool true) ∧ J (pre ++ [x']) W' ∧ KpB n₀ B W W') ∨ (e = .returned (.bool false) ∧ Jx (pre ++ [x']) W'))
    (W : World) (hK : kT.K w0 x cs) (hb : Below n₀ w0 W) (hBW : B ≤ W.heap.size) (hbox : W.heap[Bt]? = some (.cells cs.toArray 25 (0, 0))) (h0 : J [] W) :
    CallsIn Fence.wide n Tryd.prog 58 #[.func (.yield l) #[] #[], .pointer (some ⟨Bt, 0, none⟩)] W fun e W' => (∃ v, e = .returned v) ∧
      ((∃ ys : List (Nd w0 P), ys.map (·.1.1) = nd x ∧ J ys W') ∨ (∃ ys : List (Nd w0 P), ys.map (·.1.1) <+: nd x ∧ Jx ys W')) := by
  have anyD : ∀ (m m' : Nat) (pre : List (Nd w0 P)) (x' : Nd w0 P) (W : World) (R : Ending → World → Prop), YieldAt Fence.wide m Tryd.prog l #[.agg x'.1.2] W R → YieldAt Fence.wide m' Tryd.prog l #[.agg x'.1.2] W R := fun m m' pre x' W R h => by
    obtain ⟨fn, tmps, assign, body, hy, hR⟩ := h
    exact ⟨fn, tmps, assign, body, hy, ⟨hR.1, fun c cs _ => hR.2 c cs (fun d h => by cases h)⟩⟩
  have hv := visit_in l n₀ B (nd x).length w0 P hn₀ hB J Jx hJ (fun m pre x' W hj hl => anyD _ m pre x' W _ (hY pre x' W hj hl)) (nd x).length (n - 1) x cs [] W (Nat.le_refl _) hP hK hb hBW h0 (by simp)
  obtain ⟨A5, c5, rfl, l5, g5⟩ := k25_open hK
  have hu25 := Tryd.underlying25
  have q0 := (blk_cell hbox 0).trans (show _ = some (Value.int .u8 x.f0) from rfl)
  have q1 := (blk_cell hbox 1).trans (show _ = some (Value.int .i64 x.f1) from rfl)
  have q2 := (blk_cell hbox 2).trans (show _ = some (Value.int .u64 x.f2) from rfl)
  have q3 := (blk_cell hbox 3).trans (show _ = some (Value.string x.f3) from rfl)
  have q4 := (blk_cell hbox 4).trans (show _ = some (Value.int .i64 x.f4) from rfl)
  have q5 := (blk_cell hbox 5).trans (show _ = some (Value.slice A5 x.f5.length c5) from rfl)
  have HV := Aside0.mk hv
  clear hv hY hP anyD hJ h0 hK hb hn₀ g5 hbox
  refine callsIn_of_wp Tryd.func58 rfl trivial ?_ rfl
  simp only [Tryd.ntmps58, List.size_toArray, List.length_cons, List.length_nil, Nat.reduceAdd, Nat.reduceSub, Array.replicate_succ, Array.replicate_zero, List.push_toArray, List.append_toArray, List.nil_append, List.cons_append]
  gi_wp2
  refine ⟨trivial, fun h => (by cases h), ?_⟩
  refine HV.out.mono ?_
  rintro e W1 (⟨rfl, ys, hys, hJ1, _⟩ | ⟨rfl, ys, hys, hJ1⟩)
  · gi_wp2
    go_end0
    exact ⟨⟨_, rfl⟩, .inl ⟨ys, hys, by simpa using hJ1⟩⟩
  · gi_wp2
    go_end0
    exact ⟨⟨_, rfl⟩, .inr ⟨ys, hys, by simpa using hJ1⟩⟩
/-- nodes(t): the term is boxed; the function value captures the box. -/
theorem nodes_calls (x : Tm) (cs : List Value) (w : World) (hK : kT.K w x cs) :
    Calls Tryd.prog 33 #[.agg cs.toArray] w fun e w' => e = .returned (.func (.func 58) #[] #[.pointer (some ⟨w.heap.size, 0, none⟩)]) ∧ w' = w.alloc (.cells cs.toArray 25) := by
  obtain ⟨A5, c5, rfl, l5, g5⟩ := k25_open hK
  have hu25 := Tryd.underlying25
  have hmf : ∀ (fn : Fn) (first cap : Array Value) (w : World), (Instr.makeFunc fn first cap).run Tryd.prog w = .ok (.func fn first cap) w := fun _ _ _ _ => rfl
  clear g5 hK
  go_enter Tryd.func33, Tryd.ntmps33
  go_wp2
  go_ret
  exact ⟨rfl, rfl⟩
/-- Its value hands on the nodes of the term, in order; or a part of them. -/
theorem nodes_stops (n n₀ B Bt : Nat) (w0 w : World) (P : Tm → Prop) (hn₀ : n₀ = w0.heap.size) (hB : n₀ ≤ B) (x : Tm) (cs : List Value) (hP : ∀ y ∈ nd x, P y) (hK : kT.K w0 x cs) (hb : Below n₀ w0 w) (hBW : B ≤ w.heap.size) (hbox : w.heap[Bt]? = some (.cells cs.toArray 25 (0, 0))) :
    SeqStopsK Fence.wide n Tryd.prog 58 #[.pointer (some ⟨Bt, 0, none⟩)] (fun x : Nd w0 P => #[Value.agg x.1.2]) (KpB n₀ B) (fun ys => ys.map (·.1.1) = nd x) (fun ys => ys.map (·.1.1) <+: nd x) (nd x).length w := fun l J Jx W hW hJ _ hY h0 =>
  nodes1_in l n n₀ B Bt w0 P hn₀ hB J Jx hJ x cs hP hY W hK (hb.trans (hW.mono (Nat.le_trans hB hBW))) (Nat.le_trans hBW hW.size) ((hW.block _ (blk_lt hbox)).trans hbox) h0
end Go.Proofs.YtjopdafckhkmmaaDoor.MBS
