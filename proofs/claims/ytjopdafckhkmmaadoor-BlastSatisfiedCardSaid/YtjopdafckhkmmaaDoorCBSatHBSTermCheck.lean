/- term.Check by hand: size and depth, each node, the variables. -/
import Derived.Test.YtjopdafckhkmmaaDoorCBSatHBSTermVars
set_option linter.unusedVariables false
set_option linter.unusedSimpArgs false
namespace Go.Proofs.YtjopdafckhkmmaaDoor.MBS
open Go.Proofs.YtjopdafckhkmmaaDoor.Zed Go.RowKit Go.Proofs.YtjopdafckhkmmaaDoorW.PrintWords Go.Proofs.YtjopdafckhkmmaaDoorW.PrintLast Go.Proofs.YtjopdafckhkmmaaDoorW.PrintMore
attribute [local go_sem] Oper.semAt_some

theorem results_boxed1 {fn : Func} {p : Tmp} {ty : TypeId} (h : fn.results = #[.cell p ty]) (tmps : Array Value) (w : World) (g : Nat) (t : TypeId) (v : Value) (d : TypeDesc)
    (hp : tmps.getD p undef = .pointer (some ⟨g, 0, none⟩)) (hg : Boxed w g t v) (hu : Tryd.prog.underlying ty = some d) (hd : (match d with | .struct _ | .array _ _ => true | _ => false) = false) :
    (results fn tmps).run Tryd.prog w = .ok v w := by
  have h1 : tmps[p]?.getD undef = .pointer (some ⟨g, 0, none⟩) := by simpa using hp
  simp [results, h, h1, asAddr, run_loadVar_box w g t ty v d hg hu hd]
/-- A name that passes is short. -/
theorem name_size {k : Nat} {a : ByteArray} (h : bits_Name.f k a = some true) : a.size ≤ 24 := by
  unfold bits_Name.f at h
  split at h
  · omega
  · by_cases hs : (a.size : Int) > 24
    · rw [decide_eq_true hs] at h
      cases k with
      | zero => simp [bits_Name.j0] at h
      | succ k => simp [bits_Name.j0] at h
    · omega
theorem trim_size {a b t : ByteArray} (h : strings_TrimPrefix.f a b = some t) : a.size ≤ t.size + b.size := by
  unfold strings_TrimPrefix.f stringslite_TrimPrefix.f at h
  cases hp : stringslite_HasPrefix.f a b with
  | none => simp [hp] at h
  | some v =>
    rw [hp] at h
    simp only [Option.bind_some] at h
    by_cases hv : v = true
    · rw [if_pos hv, if_pos q29_] at h
      by_cases hl : (b.size : Int) ≤ (a.size : Int)
      · rw [if_pos hl] at h
        obtain rfl := Option.some.inj h
        rw [ByteArray.size_extract]
        omega
      · rw [if_neg hl] at h
        simp at h
    · rw [if_neg hv] at h
      obtain rfl := Option.some.inj h
      omega
theorem variable_size {k : Nat} {a : ByteArray} (h : term_variable.f k a = some true) : a.size ≤ 26 := by
  unfold term_variable.f at h
  cases ht : strings_TrimPrefix.f a (⟨#[114, 46]⟩ : ByteArray) with
  | none => simp [ht] at h
  | some t =>
    rw [ht] at h
    simp only [Option.bind_some] at h
    have h1 := trim_size ht
    have h2 : bits_Name.f k t = some true := by
      cases hb : bits_Name.f k t with
      | none => simp [hb] at h
      | some v => simpa [hb] using h
    have h3 := name_size h2
    have h4 : (⟨#[114, 46]⟩ : ByteArray).size = 2 := rfl
    omega
theorem nodeF_wf {k : Nat} {y : Tm} (h : nodeF k y = some true) (h2 : y.f0 = 2) : y.f3.size ≤ maxLen ∧ (Lit.int .i64 y.f1).wf = true := by
  unfold nodeF at h
  cases hw : wideB y.f1 with
  | false => rw [hw] at h; simp at h
  | true =>
    obtain ⟨a, b⟩ := wideB_range hw
    have hz : ¬ (0 : Int) < shP y.f0.toNat := by rw [h2]; decide
    rw [hw, if_pos rfl, if_neg hz] at h
    split at h
    · split at h
      · rw [if_neg q29_] at h
        split at h
        · have := variable_size h
          exact ⟨Nat.le_trans this (by unfold maxLen; omega), by simp only [Lit.wf, IntKind.min, IntKind.max, IntKind.signed, IntKind.bits, Bool.and_eq_true, decide_eq_true_eq, if_true]; omega⟩
        · simp at h
      · simp at h
    · simp at h
/-- What node answers, where it answers. -/
def nodeB (k : Nat) (y : Tm) : Bool := (nodeF k y).getD false
theorem vOk_dec (l : List Tm) : (l.all fun x => l.all fun y => decide (x.f0 = 2 → y.f0 = 2 → x.f3 = y.f3 → x.f1 = y.f1)) = true ↔ vOk l := by
  rw [List.all_eq_true]
  constructor
  · intro h x hx y hy
    have h1 := h x hx
    rw [List.all_eq_true] at h1
    exact of_decide_eq_true (h1 y hy)
  · intro h x hx
    rw [List.all_eq_true]
    intro y hy
    exact decide_eq_true (h x hx y hy)
instance (l : List Tm) : Decidable (vOk l) := decidable_of_iff _ (vOk_dec l)
/-- What is asked of a node. -/
def NOk (k : Nat) (y : Tm) : Prop := (0 ≤ y.f0 ∧ y.f0 < 256) ∧ ∃ b, nodeF k y = some b
theorem keeps_below {W W' : World} (h : Below W.heap.size W W') (B : Nat) : KeepsFrom B W W' := ⟨h.size, fun k o _ hk _ => (h.block k (Array.getElem?_eq_some_iff.1 hk).1).trans hk⟩
/-- What Check answers. -/
def chkR (k : Nat) (x : Tm) (d : Int) : Int :=
  if 400 < (nd x).length ∨ 60 < d then 4 else if (nd x).all (nodeB k) = true then (if vOk (nd x) then 0 else 14) else 8
set_option maxRecDepth 100000 in
set_option maxHeartbeats 2000000 in
theorem Check_calls (k : Nat) (x : Tm) (cs : List Value) (d : Int) (w : World) (hK : kT.K w x cs) (hT : Tab w) (hn : (nd x).length ≤ 1000000)
    (hd : term_Depth.f k x.f0 x.f1 x.f2 x.f3 x.f4 x.f5 = some d) (hnd : ∀ y ∈ nd x, NOk k y) :
    Calls Tryd.prog 28 #[.agg cs.toArray] w fun e w' => e = .returned (.int .i64 (chkR k x d)) ∧ Below w.heap.size w w' := by
  refine (callsIn_wide (n := 5)).1 ?_
  have HK := Aside0.mk hK
  have HT := Aside0.mk hT
  have HD := Aside0.mk hd
  have HND := Aside0.mk hnd
  have HDEP : ∀ W : World, Below w.heap.size w W → Calls Tryd.prog 53 #[.agg cs.toArray] W fun e w' => e = .returned (.int .i64 d) ∧ Below W.heap.size W w' := fun W hW => by
    obtain ⟨A5, c5, rfl, l5, g5⟩ := k25_open (kT.K_below hW hK)
    exact term_Depth.calls k _ _ _ _ _ _ _ _ d W g5 l5 hd
  have HVAR : (∀ y ∈ nd x, nodeF k y = some true) → ∀ W : World, Below w.heap.size w W → Calls Tryd.prog 29 #[.agg cs.toArray] W fun e w' => Below W.heap.size W w' ∧
      ((∃ b, W.heap.size ≤ b ∧ e = .returned (.tuple #[.map (some b), .bool true]) ∧ vOk (nd x) ∧ MapSI w' b (nd x)) ∨ (e = .returned (.tuple #[.map none, .bool false]) ∧ ¬ vOk (nd x))) := fun hv W hW =>
    variables_calls x cs W (kT.K_below hW hK) hn (fun y hy h2 => nodeF_wf (hv y hy) h2)
  obtain ⟨A5, c5, rfl, l5, g5⟩ := k25_open hK
  have hu25 := Tryd.underlying25
  replace HDEP := Aside0.mk HDEP
  replace HVAR := Aside0.mk HVAR
  clear g5 hK hT hd hnd
  refine callsIn_of_wp_marks Tryd.func28 rfl trivial ?_ rfl
  simp only [Tryd.ntmps28, List.size_toArray, List.length_cons, List.length_nil, Nat.reduceAdd, Nat.reduceSub, Array.replicate_succ, Array.replicate_zero, List.push_toArray, List.append_toArray, List.nil_append, List.cons_append]
  gi_wp2
  obtain ⟨W1, hW1⟩ : ∃ W1, W1 = w.alloc (.cells #[.int .u8 x.f0, .int .i64 x.f1, .int .u64 x.f2, .string x.f3, .int .i64 x.f4, .slice A5 x.f5.length c5] 25) := ⟨_, rfl⟩
  obtain ⟨W2, hW2⟩ : ∃ W2, W2 = W1.alloc (.cells #[.int .i64 0] 33) := ⟨_, rfl⟩
  have z1 : W1.heap.size = w.heap.size + 1 := by rw [hW1]; simp
  have z2 : W2.heap.size = w.heap.size + 2 := by rw [hW2]; simp [z1]
  have bx : W2.heap[w.heap.size]? = some (.cells #[.int .u8 x.f0, .int .i64 x.f1, .int .u64 x.f2, .string x.f3, .int .i64 x.f4, .slice A5 x.f5.length c5] 25 (0, 0)) := by
    rw [hW2, hW1]
    exact blk_alloc (blk_new w _) _
  have r1 : Boxed W2 (w.heap.size + 1) 33 (.int .i64 0) := by
    rw [hW2, ← z1]
    exact Boxed.new W1 _ _
  have b2 : Below w.heap.size w W2 := by
    rw [hW2, hW1]
    exact below_alloc (below_alloc (Below.refl _ _) _) _
  refine ⟨trivial, ?_⟩
  rw [← hW1, ← hW2]
  clear hW1 hW2 z1
  refine (callsIn_wide.2 (Size_calls x _ W2 (kT.K_below b2 HK.out) hn)).mono ?_
  rintro e W3 ⟨rfl, hb3⟩
  replace bx := blk_below bx hb3
  replace r1 : Boxed W3 (w.heap.size + 1) 33 (.int .i64 0) := blk_below r1 hb3
  have b3 := below_step b2 hb3
  have z3 : w.heap.size + 2 ≤ W3.heap.size := by have := hb3.size; omega
  clear b2 hb3 z2
  have q0 := (blk_cell bx 0).trans (show _ = some (Value.int .u8 x.f0) from rfl)
  have q1 := (blk_cell bx 1).trans (show _ = some (Value.int .i64 x.f1) from rfl)
  have q2 := (blk_cell bx 2).trans (show _ = some (Value.int .u64 x.f2) from rfl)
  have q3 := (blk_cell bx 3).trans (show _ = some (Value.string x.f3) from rfl)
  have q4 := (blk_cell bx 4).trans (show _ = some (Value.int .i64 x.f4) from rfl)
  have q5 := (blk_cell bx 5).trans (show _ = some (Value.slice A5 x.f5.length c5) from rfl)
  have d1 := r1.cell
  have f1 := r1.frozen
  have HR := Aside0.mk r1
  have HB := Aside0.mk b3
  have HBX := Aside0.mk bx
  have HN := Aside0.mk hn
  clear r1 b3 bx hn
  by_cases hs : 400 < (nd x).length
  · have hsb : (400 : Int) < ((nd x).length : Int) := by omega
    gi_wp2
    refine ⟨trivial, ?_⟩
    gi_wp2
    refine ⟨_, results_boxed1 (p := 2) q28_ _ _ (w.heap.size + 1) _ _ _ rfl (HR.out.set _) Tryd.underlying33 rfl, ?_⟩
    exact ⟨by rw [chkR, if_pos (Or.inl hs)], below_set HB.out q29_⟩
  · have hsb : ¬ (400 : Int) < ((nd x).length : Int) := by omega
    gi_wp2
    refine ⟨trivial, ?_⟩
    refine (callsIn_wide.2 (HDEP.out W3 HB.out)).mono ?_
    rintro e W4 ⟨rfl, hb4⟩
    have bx4 := blk_below HBX.out hb4
    have r4 : Boxed W4 (w.heap.size + 1) 33 (.int .i64 0) := blk_below HR.out hb4
    have b4 := below_step HB.out hb4
    have z4 : w.heap.size + 2 ≤ W4.heap.size := by have := hb4.size; omega
    clear q0 q1 q2 q3 q4 q5 d1 f1 hb4 HR HB HBX
    have q0 := (blk_cell bx4 0).trans (show _ = some (Value.int .u8 x.f0) from rfl)
    have q1 := (blk_cell bx4 1).trans (show _ = some (Value.int .i64 x.f1) from rfl)
    have q2 := (blk_cell bx4 2).trans (show _ = some (Value.int .u64 x.f2) from rfl)
    have q3 := (blk_cell bx4 3).trans (show _ = some (Value.string x.f3) from rfl)
    have q4 := (blk_cell bx4 4).trans (show _ = some (Value.int .i64 x.f4) from rfl)
    have q5 := (blk_cell bx4 5).trans (show _ = some (Value.slice A5 x.f5.length c5) from rfl)
    have d1 := r4.cell
    have f1 := r4.frozen
    have HR := Aside0.mk r4
    have HB := Aside0.mk b4
    have HBX := Aside0.mk bx4
    clear bx4 r4 b4
    by_cases hd6 : 60 < d
    · gi_wp2
      refine ⟨_, results_boxed1 (p := 2) q28_ _ _ (w.heap.size + 1) _ _ _ rfl (HR.out.set _) Tryd.underlying33 rfl, ?_⟩
      exact ⟨by rw [chkR, if_pos (Or.inr hd6)], below_set HB.out q29_⟩
    · have HS := Aside0.mk (show ¬ (400 < (nd x).length ∨ 60 < d) by omega)
      gi_wp2
      refine ⟨trivial, ?_⟩
      refine (callsIn_wide.2 (nodes_calls x _ W4 (kT.K_below HB.out HK.out))).mono ?_
      rintro e w' ⟨rfl, rfl⟩
      obtain ⟨W5, hW5⟩ : ∃ W5, W5 = W4.alloc (.cells [.int .u8 x.f0, .int .i64 x.f1, .int .u64 x.f2, .string x.f3, .int .i64 x.f4, .slice A5 x.f5.length c5].toArray 25) := ⟨_, rfl⟩
      have hbx := blk_new W4 (.cells [.int .u8 x.f0, .int .i64 x.f1, .int .u64 x.f2, .string x.f3, .int .i64 x.f4, .slice A5 x.f5.length c5].toArray 25)
      rw [← hW5] at hbx
      rw [← hW5]
      have r5 : Boxed W5 (w.heap.size + 1) 33 (.int .i64 0) := by rw [hW5]; exact HR.out.alloc _
      have bx5 : W5.heap[w.heap.size]? = some (.cells #[.int .u8 x.f0, .int .i64 x.f1, .int .u64 x.f2, .string x.f3, .int .i64 x.f4, .slice A5 x.f5.length c5] 25 (0, 0)) := by rw [hW5]; exact blk_alloc HBX.out _
      have b5 : Below w.heap.size w W5 := by rw [hW5]; exact below_alloc HB.out _
      have z5 : W5.heap.size = W4.heap.size + 1 := by rw [hW5]; simp
      obtain ⟨B, hB⟩ : ∃ B, B = W4.heap.size := ⟨_, rfl⟩
      rw [← hB] at hbx z4 z5 ⊢
      clear hB hW5 HR HB HBX q0 q1 q2 q3 q4 q5 d1 f1
      gi_wp2
      obtain ⟨bb1, hbb1⟩ : ∃ b, b = decide ((400 : Int) < ((nd x).length : Int)) := ⟨_, rfl⟩
      obtain ⟨bb2, hbb2⟩ : ∃ b, b = decide (60 < d) := ⟨_, rfl⟩
      rw [← hbb1, ← hbb2]
      clear hbb1 hbb2 hsb hd6 hs
      refine wpIn_rangeFunc_ownH (F := Fence.wide) rfl q29_ (gf := 58) (lb := #[.pointer (some ⟨B, 0, none⟩)]) rfl trivial (enters_of Tryd.func58 q28_ rfl)
        (nodes_stops (5 - 1) w.heap.size (w.heap.size + 2) B w W5 (NOk k) rfl q29_ x _ HND.out HK.out b5 q29_ hbx)
        (fun h k => h.trans k) (fun W l o o' hl h hc hw => kpB_b q29_ W l o o' q29_ h hc hw) (Below.refl _ _) (fun _ => rfl)
        (fun pre W => ((Boxed W (w.heap.size + 1) 33 (.int .i64 0) ∧ W.heap[w.heap.size]? = some (.cells #[.int .u8 x.f0, .int .i64 x.f1, .int .u64 x.f2, .string x.f3, .int .i64 x.f4, .slice A5 x.f5.length c5] 25 (0, 0))) ∧ ∀ y ∈ pre.map (·.1.1), nodeF k y = some true) ∧ Below w.heap.size w W ∧ B + 1 ≤ W.heap.size)
        (fun c pre W => ((Boxed W (w.heap.size + 1) 33 (.int .i64 8) ∧ c = .ret) ∧ ∃ y ∈ pre.map (·.1.1), nodeF k y = some false) ∧ Below w.heap.size w W)
        (OwnFrom.and (OwnFrom.and (OwnFrom.and (Own.from (boxed_own _ _ _) _) (fun _ X Y row hs hg hr => (grownBy_keeps_cells hg (fun r e => (hr r e).2) hs rfl).trans hs)) (ownFrom_pure _ _)) (OwnFrom.and (ownFrom_below (Nat.le_refl _) q29_) (fun _ _ _ _ hs hg _ => Nat.le_trans hs hg.size)))
        (fun c => OwnFrom.and (OwnFrom.and (OwnFrom.and (Own.from (boxed_own _ _ _) _) (ownFrom_pure _ _)) (ownFrom_pure _ _)) (ownFrom_below (Nat.le_refl _) q29_))
        ⟨⟨⟨r5, bx5⟩, by simp⟩, b5, by omega⟩
        (fun x' a' W => ∃ Bx, B + 1 ≤ Bx ∧ W.heap[Bx]? = some (.cells x'.1.2 25 (0, 0)) ∧ a' = { tmps := #[.agg #[.int .u8 x.f0, .int .i64 x.f1, .int .u64 x.f2, .string x.f3, .int .i64 x.f4, .slice A5 x.f5.length c5], .pointer (some ⟨w.heap.size, 0, none⟩), .pointer (some ⟨w.heap.size + 1, 0, none⟩), .pointer (some ⟨Bx, 0, none⟩), undef, undef, .agg #[.int .u8 x.f0, .int .i64 x.f1, .int .u64 x.f2, .string x.f3, .int .i64 x.f4, .slice A5 x.f5.length c5], .int .i64 ((nd x).length : Nat), .bool bb1, .bool bb1, .agg #[.int .u8 x.f0, .int .i64 x.f1, .int .u64 x.f2, .string x.f3, .int .i64 x.f4, .slice A5 x.f5.length c5], .int .i64 d, .bool bb2, .bool (bb1 || bb2), .agg #[.int .u8 x.f0, .int .i64 x.f1, .int .u64 x.f2, .string x.f3, .int .i64 x.f4, .slice A5 x.f5.length c5], .func (.func 58) #[] #[.pointer (some ⟨B, 0, none⟩)], .agg x'.1.2, undef, undef, undef, undef, undef, undef, undef, undef, undef, undef], defers := [] })
        (fun x' a' _ X Y row hs hg hr => by
          obtain ⟨Bx, h1, h2, h3⟩ := hs
          exact ⟨Bx, h1, (grownBy_keeps_cells hg (fun r e => (hr r e).2) h2 rfl).trans h2, h3⟩)
        ?assign ?body ?done ?stop
      case assign =>
        rintro l pre ⟨⟨x1, cs1⟩, hK1, hP1⟩ W K ⟨⟨⟨p1, p2⟩, p3⟩, pb, pS⟩ hK
        dsimp only at hK1 hP1 hK
        obtain ⟨A1, c1, e1, l1, g1⟩ := k25_open hK1
        have e2 : cs1 = #[.int .u8 x1.f0, .int .i64 x1.f1, .int .u64 x1.f2, .string x1.f3, .int .i64 x1.f4, .slice A1 x1.f5.length c1] := by rw [← Array.toList_inj]; exact e1
        clear e1 g1 l1
        subst e2
        rw [fill_one]
        have H3 := Aside0.mk p3
        have HS := Aside0.mk pS
        clear p3 pS
        gi_wp2
        exact hK _ _ ((KeepsOthers.alloc _ _).from _) ((KpB.refl _ _ _).alloc pb.size _) ⟨⟨⟨p1.alloc _, blk_alloc p2 _⟩, H3.out⟩, below_alloc pb _, by have := HS.out; simp; omega⟩ ⟨W.heap.size, HS.out, Boxed6 W _ _, rfl⟩
      case body =>
        rintro l pre ⟨⟨x1, cs1⟩, hK1, hP1⟩ a' W hl ⟨r, hr⟩ ⟨⟨⟨p1, p2⟩, p3⟩, pb, pS⟩ ⟨Bx, hBx, bX, rfl⟩ hlt
        dsimp only at hK1 hP1 bX ⊢
        obtain ⟨A1, c1, e1, l1, g1⟩ := k25_open hK1
        have e2 : cs1 = #[.int .u8 x1.f0, .int .i64 x1.f1, .int .u64 x1.f2, .string x1.f3, .int .i64 x1.f4, .slice A1 x1.f5.length c1] := by rw [← Array.toList_inj]; exact e1
        clear e1 g1 l1
        subst e2
        have y0 := (blk_cell bX 0).trans (show _ = some (Value.int .u8 x1.f0) from rfl)
        have y1 := (blk_cell bX 1).trans (show _ = some (Value.int .i64 x1.f1) from rfl)
        have y2 := (blk_cell bX 2).trans (show _ = some (Value.int .u64 x1.f2) from rfl)
        have y3 := (blk_cell bX 3).trans (show _ = some (Value.string x1.f3) from rfl)
        have y4 := (blk_cell bX 4).trans (show _ = some (Value.int .i64 x1.f4) from rfl)
        have y5 := (blk_cell bX 5).trans (show _ = some (Value.slice A1 x1.f5.length c1) from rfl)
        have H1 := Aside0.mk p1
        have H2 := Aside0.mk p2
        have H3 := Aside0.mk p3
        have HB := Aside0.mk pb
        have HS := Aside0.mk pS
        have HP := Aside0.mk hP1
        have HK1 := Aside0.mk hK1
        clear p1 p2 p3 pb bX hr pS
        gi_wp2
        refine ⟨trivial, ?_⟩
        obtain ⟨⟨k0, k1⟩, b, hb⟩ := HP.out
        refine (CallsIn.inRound l (callsIn_wide.2 (node_calls k x1 _ b W (kT.K_below HB.out HK1.out) (HT.out.below HB.out) k0 k1 hb))).mono ?_
        rintro e W6 ⟨rfl, hb6⟩
        have r6 : Boxed W6 (w.heap.size + 1) 33 (.int .i64 0) := blk_below H1.out hb6
        have s6 : W6.heap[w.heap.size]? = some _ := blk_below H2.out hb6
        have d1 := r6.cell
        have f1 := r6.frozen
        have HR6 := Aside0.mk r6
        have HS6 := Aside0.mk s6
        have HB6 := Aside0.mk hb6
        have HBB := Aside0.mk hb
        have HS7 := Aside0.mk (show w.heap.size ≤ W.heap.size by have := HS.out; omega)
        clear y0 y1 y2 y3 y4 y5 r6 s6 hb6 hb
        cases b with
        | true =>
          gi_wp2
          refine ⟨keeps_below HB6.out _, (KpB.refl _ _ _).below' HB6.out HS7.out, ⟨⟨HR6.out, HS6.out⟩, ?_⟩, below_step HB.out HB6.out, Nat.le_trans HS.out HB6.out.size⟩
          intro y hy
          rw [List.map_append] at hy
          rcases List.mem_append.1 hy with hy | hy
          · exact H3.out y hy
          · rw [List.mem_singleton.1 (show y ∈ [x1] from hy)]
            exact HBB.out
        | false =>
          gi_wp2
          refine ⟨(keeps_below HB6.out _).trans ((KeepsOthers.setCell _ _ _).from _), ⟨⟨HR6.out.set _, rfl⟩, ⟨x1, by rw [List.map_append]; exact List.mem_append_right _ (show x1 ∈ [x1] from List.mem_singleton.2 rfl), HBB.out⟩⟩, below_set (below_step HB.out HB6.out) q29_⟩
      case done =>
        rintro D ys W hD hys ⟨⟨⟨p1, p2⟩, p3⟩, pb, pS⟩ hKD
        rw [hys] at p3
        have q0 := (blk_cell p2 0).trans (show _ = some (Value.int .u8 x.f0) from rfl)
        have q1 := (blk_cell p2 1).trans (show _ = some (Value.int .i64 x.f1) from rfl)
        have q2 := (blk_cell p2 2).trans (show _ = some (Value.int .u64 x.f2) from rfl)
        have q3 := (blk_cell p2 3).trans (show _ = some (Value.string x.f3) from rfl)
        have q4 := (blk_cell p2 4).trans (show _ = some (Value.int .i64 x.f4) from rfl)
        have q5 := (blk_cell p2 5).trans (show _ = some (Value.slice A5 x.f5.length c5) from rfl)
        have H1 := Aside0.mk p1
        have H3 := Aside0.mk p3
        have HB := Aside0.mk pb
        have HKD := Aside0.mk hKD
        clear p1 p2 p3 pb hKD hys
        gi_wp2
        refine ⟨trivial, ?_⟩
        refine (callsIn_wide.2 (HVAR.out H3.out W HB.out)).mono ?_
        rintro e W6 ⟨hb6, hor⟩
        have r6 : Boxed W6 (w.heap.size + 1) 33 (.int .i64 0) := blk_below H1.out hb6
        have kd6 := blk_below HKD.out hb6
        have d1 := r6.cell
        have f1 := r6.frozen
        have HR6 := Aside0.mk r6
        have HB6 := Aside0.mk (below_step HB.out hb6)
        have HALL := Aside0.mk (show (nd x).all (nodeB k) = true from List.all_eq_true.2 fun y hy => by rw [nodeB, H3.out y hy]; rfl)
        clear q0 q1 q2 q3 q4 q5 r6 hb6
        rcases hor with ⟨b, hb, rfl, hv, hm⟩ | ⟨rfl, hv⟩
        · have HV := Aside0.mk hv
          have KD := Aside0.mk kd6
          clear hv hm kd6
          gi_wp2
          have kD := (defer_other (j := 0) (v := .int .i64 0) KD.out (show w.heap.size + 1 < D by omega))
          refine ⟨by simp, .inl ⟨_, _, rfl, run_takeDeferred kD, ?_⟩⟩
          refine ⟨_, results_boxed1 (p := 2) q28_ _ _ (w.heap.size + 1) _ _ _ rfl (boxed_put (HR6.out.set (.int .i64 0)) q29_ _) Tryd.underlying33 rfl, ?_⟩
          refine ⟨by rw [chkR, if_neg HS.out, if_pos HALL.out, if_pos HV.out], Below.trans (below_set HB6.out q29_) (belowK_b (w := w) (Nat.le_refl _) _ D _ _ q29_ kD rfl rfl)⟩
        · have HV := Aside0.mk hv
          have KD := Aside0.mk kd6
          clear hv kd6
          gi_wp2
          have kD := (defer_other (j := 0) (v := .int .i64 14) KD.out (show w.heap.size + 1 < D by omega))
          refine ⟨by simp, .inl ⟨_, _, rfl, run_takeDeferred kD, ?_⟩⟩
          refine ⟨_, results_boxed1 (p := 2) q28_ _ _ (w.heap.size + 1) _ _ _ rfl (boxed_put (HR6.out.set (.int .i64 14)) q29_ _) Tryd.underlying33 rfl, ?_⟩
          refine ⟨by rw [chkR, if_neg HS.out, if_pos HALL.out, if_neg HV.out], Below.trans (below_set HB6.out q29_) (belowK_b (w := w) (Nat.le_refl _) _ D _ _ q29_ kD rfl rfl)⟩
      case stop =>
        rintro D c pre W hD hpre ⟨⟨⟨p1, rfl⟩, p3⟩, pb⟩ hKD
        have H1 := Aside0.mk p1
        have H3 := Aside0.mk p3
        have HB := Aside0.mk pb
        have HKD := Aside0.mk hKD
        clear p1 p3 pb hKD
        gi_wp2
        have hna : ¬ (nd x).all (nodeB k) = true := fun h => by
          obtain ⟨y, hy, hf⟩ := H3.out
          obtain ⟨r, hr⟩ := hpre
          have h1 := List.all_eq_true.1 h y (by rw [← hr]; exact List.mem_append_left _ hy)
          rw [nodeB, hf] at h1
          simp at h1
        have kD := HKD.out
        refine ⟨by simp, .inl ⟨_, _, rfl, run_takeDeferred kD, ?_⟩⟩
        refine ⟨_, results_boxed1 (p := 2) q28_ _ _ (w.heap.size + 1) _ _ _ rfl (boxed_put H1.out q29_ _) Tryd.underlying33 rfl, ?_⟩
        refine ⟨by rw [chkR, if_neg HS.out, if_neg hna], Below.trans HB.out (belowK_b (w := w) (Nat.le_refl _) _ D _ _ q29_ kD rfl rfl)⟩
end Go.Proofs.YtjopdafckhkmmaaDoor.MBS
