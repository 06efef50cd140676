/- term.variables by hand: a range over the nodes of a term with a boxed loop variable, filling a map. -/
import Derived.Test.YtjopdafckhkmmaaDoorCBSatHBSTermNodeB
import Derived.Maps.OwnIn
set_option linter.unusedVariables false
set_option linter.unusedSimpArgs false
namespace Go.Proofs.YtjopdafckhkmmaaDoor.MBS
open Go.Proofs.YtjopdafckhkmmaaDoor.Zed Go.RowKit Go.Proofs.YtjopdafckhkmmaaDoorW.PrintWords Go.Proofs.YtjopdafckhkmmaaDoorW.PrintLast Go.Proofs.YtjopdafckhkmmaaDoorW.PrintMore
open Go.Maps (has IsMap)
attribute [local go_sem] Oper.semAt_some

/-- A name as a map's key. -/
abbrev kyS (s : ByteArray) : Lit := .string s.data.toList
theorem kyS_inj {s t : ByteArray} (h : kyS s = kyS t) : s = t := by
  injection h with h
  cases s; cases t
  exact congrArg ByteArray.mk (Array.toList_inj.1 h)
/-- What the map holds behind the nodes l. -/
structure VM (l : List Tm) (D : DataW Unit) : Prop where
  isMap : IsMap D
  mem : ∀ s : ByteArray, has D (kyS s) = true ↔ ∃ x ∈ l, x.f0 = 2 ∧ x.f3 = s
  at_ : ∀ x ∈ l, x.f0 = 2 → ∀ z, D.atKey (kyS x.f3) z = .lit (.int .i64 x.f1)
/-- No variable occurs with two widths. -/
def vOk (l : List Tm) : Prop := ∀ x ∈ l, ∀ y ∈ l, x.f0 = 2 → y.f0 = 2 → x.f3 = y.f3 → x.f1 = y.f1
theorem VM.nil : VM [] (.map []) := ⟨Maps.isMap_empty, fun s => by simp [Maps.has_eq], by simp⟩
theorem VM.ok {l : List Tm} {D : DataW Unit} (h : VM l D) : vOk l := fun x hx y hy kx ky e => by
  have h1 := h.at_ x hx kx .nil
  have h2 := h.at_ y hy ky .nil
  rw [e, h2] at h1
  injection h1 with h1
  injection h1 with _ h1
  exact h1.symm
theorem VM.skip {l : List Tm} {D : DataW Unit} (h : VM l D) (x : Tm) (hx : x.f0 ≠ 2) : VM (l ++ [x]) D :=
  ⟨h.isMap, fun s => by
    rw [h.mem s]
    constructor
    · rintro ⟨y, hy, h2⟩
      exact ⟨y, by simp [hy], h2⟩
    · rintro ⟨y, hy, h2, h3⟩
      rcases List.mem_append.1 hy with hy | hy
      · exact ⟨y, hy, h2, h3⟩
      · obtain rfl := List.mem_singleton.1 hy
        exact absurd h2 hx, fun y hy hk => by
    rcases List.mem_append.1 hy with hy | hy
    · exact h.at_ y hy hk
    · obtain rfl := List.mem_singleton.1 hy
      exact absurd hk hx⟩
theorem VM.put {l : List Tm} {D : DataW Unit} (h : VM l D) (x : Tm) (hx : x.f0 = 2) (c : Int) (hat : D.atKey (kyS x.f3) (.lit (.int .i64 0)) = .lit (.int .i64 c)) (hg : has D (kyS x.f3) = true → c = x.f1) : VM (l ++ [x]) (D.put (kyS x.f3) (.lit (.int .i64 x.f1))) :=
  ⟨h.isMap.put _ _, fun s => by
    by_cases e : s = x.f3
    · subst e
      rw [Maps.has_put_same h.isMap (show WideAt.IsKeyLit (kyS x.f3) from trivial)]
      exact ⟨fun _ => ⟨x, by simp, hx, rfl⟩, fun _ => rfl⟩
    · rw [Maps.has_put_other (fun h => e (kyS_inj h)), h.mem s]
      constructor
      · rintro ⟨y, hy, h2⟩
        exact ⟨y, by simp [hy], h2⟩
      · rintro ⟨y, hy, h2, h3⟩
        rcases List.mem_append.1 hy with hy | hy
        · exact ⟨y, hy, h2, h3⟩
        · obtain rfl := List.mem_singleton.1 hy
          exact absurd h3.symm e, fun y hy hk z => by
    by_cases e : y.f3 = x.f3
    · rw [e, Maps.atKey_put_same h.isMap (show WideAt.IsKeyLit (kyS x.f3) from trivial)]
      rcases List.mem_append.1 hy with hy | hy
      · have h1 := h.at_ y hy hk (.lit (.int .i64 0))
        rw [e, hat] at h1
        have h2 := hg ((h.mem x.f3).2 ⟨y, hy, hk, e⟩)
        rw [h2] at h1
        exact h1
      · obtain rfl := List.mem_singleton.1 hy
        rfl
    · rw [Maps.atKey_put_other (fun h => e (kyS_inj h))]
      rcases List.mem_append.1 hy with hy | hy
      · exact h.at_ y hy hk z
      · obtain rfl := List.mem_singleton.1 hy
        exact absurd rfl e⟩
theorem VM.clash {l : List Tm} {D : DataW Unit} (h : VM l D) (x : Tm) (hx : x.f0 = 2) (c : Int) (hat : D.atKey (kyS x.f3) (.lit (.int .i64 0)) = .lit (.int .i64 c)) (hh : has D (kyS x.f3) = true) (hc : c ≠ x.f1) : ¬ vOk (l ++ [x]) := fun hv => by
  obtain ⟨y, hy, k, e⟩ := (h.mem x.f3).1 hh
  have h1 := h.at_ y hy k (.lit (.int .i64 0))
  rw [e, hat] at h1
  injection h1 with h1
  injection h1 with _ h1
  exact hc (h1.trans (hv y (by simp [hy]) x (by simp) k hx e))
theorem vOk_prefix {l m : List Tm} (h : l <+: m) (hm : vOk m) : vOk l := by
  obtain ⟨r, rfl⟩ := h
  exact fun x hx y hy => hm x (by simp [hx]) y (by simp [hy])
/-- What the walk asks of the nodes: a variable's name and width fit. -/
def vWf (l : List Tm) : Prop := ∀ y ∈ l, y.f0 = 2 → y.f3.size ≤ maxLen ∧ (Lit.int .i64 y.f1).wf = true

/-- The map at block b. -/
def MapSI (W : World) (b : Nat) (l : List Tm) : Prop := ∃ D : DataW Unit, W.ownsMap Tryd.prog 9 (plainElem Tryd.prog 3) b l.length D ∧ VM l D
theorem MapSI.kept {W W' : World} {b : Nat} {l : List Tm} {row : Option Nat} (h : MapSI W b l) (hg : W.grownBy W' row) (hne : some b ≠ row) : MapSI W' b l := by
  obtain ⟨D, h1, h2⟩ := h
  exact ⟨D, h1.kept hg hne, h2⟩
theorem mapSI_own {α : Type} (f : α → List Tm) (b B : Nat) (hb : b < B) : OwnFrom B (fun (s : α) W => MapSI W b (f s)) := fun s X Y row hs hg hr =>
  hs.kept hg (fun e => by have := (hr b e.symm).1; omega)
theorem run_loadVar_box (w : World) (g : Nat) (t ty : TypeId) (v : Value) (d : TypeDesc) (hg : Boxed w g t v) (hu : Tryd.prog.underlying ty = some d) (hd : (match d with | .struct _ | .array _ _ => true | _ => false) = false) : (loadVar ty ⟨g, 0, none⟩).run Tryd.prog w = .ok v w := by
  have hc := hg.cell
  cases d <;> simp [loadVar, isAgg, run_underlying hu, hc] at hd ⊢
theorem results_boxed {fn : Func} {p p' : Tmp} {ty ty' : TypeId} (h : fn.results = #[.cell p ty, .cell p' ty']) (tmps : Array Value) (w : World) (g g' : Nat) (t t' : TypeId) (v v' : Value) (d d' : TypeDesc)
    (hp : tmps.getD p undef = .pointer (some ⟨g, 0, none⟩)) (hg : Boxed w g t v) (hu : Tryd.prog.underlying ty = some d) (hd : (match d with | .struct _ | .array _ _ => true | _ => false) = false)
    (hp' : tmps.getD p' undef = .pointer (some ⟨g', 0, none⟩)) (hg' : Boxed w g' t' v') (hu' : Tryd.prog.underlying ty' = some d') (hd' : (match d' with | .struct _ | .array _ _ => true | _ => false) = false) :
    (results fn tmps).run Tryd.prog w = .ok (.tuple #[v, v']) w := by
  have h1 : tmps[p]?.getD undef = .pointer (some ⟨g, 0, none⟩) := by simpa using hp
  have h2 : tmps[p']?.getD undef = .pointer (some ⟨g', 0, none⟩) := by simpa using hp'
  simp [results, h, h1, h2, asAddr, run_loadVar_box w g t ty v d hg hu hd, run_loadVar_box w g' t' ty' v' d' hg' hu' hd']
theorem defer_other {W : World} {D g j : Nat} {v : Value} (h : W.heap[D]? = some (.deferred (some []))) (hne : g < D) : (W.setCell ⟨g, j, none⟩ v).heap[D]? = some (.deferred (some [])) := (Below.heap_setCell W ⟨g, j, none⟩ v D (by show D ≠ g; omega)).trans h
theorem boxed_put {W : World} {g D : Nat} {t : TypeId} {v : Value} (h : Boxed W g t v) (hne : g ≠ D) (o : Obj) : Boxed (W.putObj D o) g t v := h.kept (grownBy_putObj' W D o) (fun e => hne (by cases e; rfl))
theorem Boxed6 (W : World) (cs : Array Value) (t : TypeId) : (W.alloc (.cells cs t)).heap[W.heap.size]? = some (.cells cs t (0, 0)) := World.alloc_heap_new W _
set_option maxRecDepth 100000 in
set_option maxHeartbeats 2000000 in
theorem variables_calls (x : Tm) (cs : List Value) (w : World) (hK : kT.K w x cs) (hn : (nd x).length ≤ 1000000) (hv : vWf (nd x)) :
    Calls Tryd.prog 29 #[.agg cs.toArray] w fun e w' => Below w.heap.size w w' ∧
      ((∃ b, w.heap.size ≤ b ∧ e = .returned (.tuple #[.map (some b), .bool true]) ∧ vOk (nd x) ∧ MapSI w' b (nd x)) ∨ (e = .returned (.tuple #[.map none, .bool false]) ∧ ¬ vOk (nd x))) := by
  refine (callsIn_wide (n := 5)).1 ?_
  have HK := Aside0.mk hK
  obtain ⟨A5, c5, rfl, l5, g5⟩ := k25_open hK
  have hu25 := Tryd.underlying25
  have hmm := @run_makeMap Tryd.prog
  clear g5 hK
  refine callsIn_of_wp_marks Tryd.func29 rfl trivial ?_ rfl
  simp only [Tryd.ntmps29, List.size_toArray, List.length_cons, List.length_nil, Nat.reduceAdd, Nat.reduceSub, Array.replicate_succ, Array.replicate_zero, List.push_toArray, List.append_toArray, List.nil_append, List.cons_append]
  gi_wp2
  obtain ⟨W1, hW1⟩ : ∃ W1, W1 = w.alloc (.cells #[.int .u8 x.f0, .int .i64 x.f1, .int .u64 x.f2, .string x.f3, .int .i64 x.f4, .slice A5 x.f5.length c5] 25) := ⟨_, rfl⟩
  obtain ⟨W2, hW2⟩ : ∃ W2, W2 = (W1.alloc (.cells #[.map none] 74)).alloc (.cells #[.bool false] 4) := ⟨_, rfl⟩
  obtain ⟨W3, hW3⟩ : ∃ W3, W3 = (W2.alloc (.map #[] 0)).alloc (.cells #[.map (some (w.heap.size + 1 + 1 + 1))] 74) := ⟨_, rfl⟩
  have z1 : W1.heap.size = w.heap.size + 1 := by rw [hW1]; simp
  have z2 : W2.heap.size = w.heap.size + 3 := by rw [hW2]; simp [z1]
  have z3 : W3.heap.size = w.heap.size + 5 := by rw [hW3]; simp [z2]
  have r1 : Boxed W3 (w.heap.size + 1) 74 (.map none) := by
    rw [hW3, hW2, ← z1]
    exact (((Boxed.new W1 _ _).alloc _).alloc _).alloc _
  have r2 : Boxed W3 (w.heap.size + 1 + 1) 4 (.bool false) := by
    have h := ((Boxed.new (W1.alloc (.cells #[.map none] 74)) 4 (.bool false)).alloc (.map #[] 0)).alloc (.cells #[.map (some (w.heap.size + 1 + 1 + 1))] 74)
    rw [World.size_alloc, z1] at h
    rw [hW3, hW2]
    exact h
  have r4 : Boxed W3 (w.heap.size + 1 + 1 + 1 + 1) 74 (.map (some (w.heap.size + 1 + 1 + 1))) := by
    have h := Boxed.new (W2.alloc (.map #[] 0)) 74 (.map (some (w.heap.size + 1 + 1 + 1)))
    rw [World.size_alloc, z2] at h
    rw [hW3]
    exact h
  have r3 : MapSI W3 (w.heap.size + 1 + 1 + 1) [] := by
    have h := (World.ownsMap_made W2 Tryd.prog 9 (plainElem (H := Unit) Tryd.prog 3)).alloc (.cells #[.map (some (w.heap.size + 1 + 1 + 1))] 74)
    rw [z2] at h
    rw [hW3]
    exact ⟨_, h, VM.nil⟩
  have b3 : Below w.heap.size w W3 := by
    rw [hW3, hW2, hW1]
    exact below_alloc (below_alloc (below_alloc (below_alloc (below_alloc (Below.refl _ _) _) _) _) _) _
  refine ⟨trivial, ?_⟩
  rw [← hW1, ← hW2, ← hW3]
  clear hW1 hW2 hW3 z1 z2
  refine (callsIn_wide.2 (nodes_calls x _ W3 (kT.K_below b3 HK.out))).mono ?_
  rintro e w' ⟨rfl, rfl⟩
  obtain ⟨W4, hW4⟩ : ∃ W4, W4 = W3.alloc (.cells [.int .u8 x.f0, .int .i64 x.f1, .int .u64 x.f2, .string x.f3, .int .i64 x.f4, .slice A5 x.f5.length c5].toArray 25) := ⟨_, rfl⟩
  have hbx := blk_new W3 (.cells [.int .u8 x.f0, .int .i64 x.f1, .int .u64 x.f2, .string x.f3, .int .i64 x.f4, .slice A5 x.f5.length c5].toArray 25)
  rw [← hW4, z3] at hbx
  rw [← hW4, z3]
  replace r1 : Boxed W4 (w.heap.size + 1) 74 (.map none) := by rw [hW4]; exact r1.alloc _
  replace r2 : Boxed W4 (w.heap.size + 1 + 1) 4 (.bool false) := by rw [hW4]; exact r2.alloc _
  replace r4 : Boxed W4 (w.heap.size + 1 + 1 + 1 + 1) 74 (.map (some (w.heap.size + 1 + 1 + 1))) := by rw [hW4]; exact r4.alloc _
  replace r3 : MapSI W4 (w.heap.size + 1 + 1 + 1) [] := by rw [hW4]; exact r3.kept (World.grownBy_alloc W3 _ none) (by simp)
  have b4 : Below w.heap.size w W4 := by rw [hW4]; exact below_alloc b3 _
  have z4 : W4.heap.size = w.heap.size + 6 := by rw [hW4]; simp [z3]
  clear hW4 b3 z3
  gi_wp2
  refine wpIn_rangeFunc_ownH (F := Fence.wide) rfl q29_ (gf := 58) (lb := #[.pointer (some ⟨w.heap.size + 5, 0, none⟩)]) rfl trivial (enters_of Tryd.func58 q28_ rfl)
    (nodes_stops (5 - 1) w.heap.size (w.heap.size + 6) (w.heap.size + 5) w W4 (fun y => y.f0 = 2 → y.f3.size ≤ maxLen ∧ (Lit.int .i64 y.f1).wf = true) rfl q29_ x _ hv HK.out b4 q29_ hbx)
    (fun h k => h.trans k) (fun W l o o' hl h hc hw => kpB_b q29_ W l o o' q29_ h hc hw) (Below.refl _ _) (fun _ => rfl)
    (fun pre W => (((Boxed W (w.heap.size + 1) 74 (.map none) ∧ Boxed W (w.heap.size + 1 + 1) 4 (.bool false)) ∧ Boxed W (w.heap.size + 1 + 1 + 1 + 1) 74 (.map (some (w.heap.size + 1 + 1 + 1)))) ∧ MapSI W (w.heap.size + 1 + 1 + 1) (pre.map (·.1.1))) ∧ Below w.heap.size w W ∧ w.heap.size + 6 ≤ W.heap.size)
    (fun c pre W => (((Boxed W (w.heap.size + 1) 74 (.map none) ∧ Boxed W (w.heap.size + 1 + 1) 4 (.bool false)) ∧ c = .ret) ∧ ¬ vOk (pre.map (·.1.1))) ∧ Below w.heap.size w W)
    (OwnFrom.and (OwnFrom.and (OwnFrom.and (OwnFrom.and (Own.from (boxed_own _ _ _) _) (Own.from (boxed_own _ _ _) _)) (Own.from (boxed_own _ _ _) _)) (mapSI_own _ _ _ q29_)) (OwnFrom.and (ownFrom_below (Nat.le_refl _) q29_) (fun _ _ _ _ hs hg _ => Nat.le_trans hs hg.size)))
    (fun c => OwnFrom.and (OwnFrom.and (OwnFrom.and (OwnFrom.and (Own.from (boxed_own _ _ _) _) (Own.from (boxed_own _ _ _) _)) (ownFrom_pure _ _)) (ownFrom_pure _ _)) (ownFrom_below (Nat.le_refl _) q29_))
    ⟨⟨⟨⟨r1, r2⟩, r4⟩, r3⟩, b4, by omega⟩
    (fun x' a' W => ∃ Bx, w.heap.size + 6 ≤ Bx ∧ W.heap[Bx]? = some (.cells x'.1.2 25 (0, 0)) ∧ a' = { tmps := #[.agg #[.int .u8 x.f0, .int .i64 x.f1, .int .u64 x.f2, .string x.f3, .int .i64 x.f4, .slice A5 x.f5.length c5], .pointer (some ⟨w.heap.size, 0, none⟩), .pointer (some ⟨w.heap.size + 1, 0, none⟩), .pointer (some ⟨w.heap.size + 1 + 1, 0, none⟩), .pointer (some ⟨w.heap.size + 1 + 1 + 1 + 1, 0, none⟩), .pointer (some ⟨Bx, 0, none⟩), undef, undef, .map (some (w.heap.size + 1 + 1 + 1)), .agg #[.int .u8 x.f0, .int .i64 x.f1, .int .u64 x.f2, .string x.f3, .int .i64 x.f4, .slice A5 x.f5.length c5], .func (.func 58) #[] #[.pointer (some ⟨w.heap.size + 5, 0, none⟩)], .agg x'.1.2, undef, undef, undef, undef, undef, undef, undef, undef, undef, undef, undef, undef, undef, undef, undef, undef, undef, undef, undef, undef, undef, undef, undef], defers := [] })
    (fun x' a' _ X Y row hs hg hr => by
      obtain ⟨Bx, h1, h2, h3⟩ := hs
      exact ⟨Bx, h1, (grownBy_keeps_cells hg (fun r e => (hr r e).2) h2 rfl).trans h2, h3⟩)
    ?assign ?body ?done ?stop
  case assign =>
    rintro l pre ⟨⟨x1, cs1⟩, hK1, hP1⟩ W K ⟨⟨⟨⟨q1, q2⟩, q4⟩, q3⟩, qb, hS⟩ hK
    dsimp only at hK1 hP1 hK
    obtain ⟨A1, c1, e1, l1, g1⟩ := k25_open hK1
    have e2 : cs1 = #[.int .u8 x1.f0, .int .i64 x1.f1, .int .u64 x1.f2, .string x1.f3, .int .i64 x1.f4, .slice A1 x1.f5.length c1] := by rw [← Array.toList_inj]; exact e1
    clear e1 g1 l1
    subst e2
    rw [fill_one]
    have HQ := Aside0.mk q3
    have HS := Aside0.mk hS
    clear q3 hS
    gi_wp2
    exact hK _ _ ((KeepsOthers.alloc _ _).from _) ((KpB.refl _ _ _).alloc qb.size _) ⟨⟨⟨⟨q1.alloc _, q2.alloc _⟩, q4.alloc _⟩, HQ.out.kept (World.grownBy_alloc W _ none) (by simp)⟩, below_alloc qb _, by have := HS.out; simp; omega⟩ ⟨W.heap.size, HS.out, Boxed6 W _ _, rfl⟩
  case body =>
    rintro l pre ⟨⟨x1, cs1⟩, hK1, hP1⟩ a' W hl ⟨r, hr⟩ ⟨⟨⟨⟨q1, q2⟩, q4⟩, q3⟩, qb, hS⟩ ⟨Bx, hBx, bX, rfl⟩ hlt
    dsimp only at hK1 hP1 bX ⊢
    obtain ⟨A1, c1, e1, l1, g1⟩ := k25_open hK1
    have e2 : cs1 = #[.int .u8 x1.f0, .int .i64 x1.f1, .int .u64 x1.f2, .string x1.f3, .int .i64 x1.f4, .slice A1 x1.f5.length c1] := by rw [← Array.toList_inj]; exact e1
    clear e1 g1 l1
    subst e2
    have y0 := (blk_cell bX 0).trans (show _ = some (Value.int .u8 x1.f0) from rfl)
    have y1 := (blk_cell bX 1).trans (show _ = some (Value.int .i64 x1.f1) from rfl)
    have y3 := (blk_cell bX 3).trans (show _ = some (Value.string x1.f3) from rfl)
    have c4 := q4.cell
    have d1 := q1.cell
    have d2 := q2.cell
    have f1 := q1.frozen
    have f2 := q2.frozen
    have HQ1 := Aside0.mk q1
    have HQ2 := Aside0.mk q2
    have HQ4 := Aside0.mk q4
    have HQ3 := Aside0.mk q3
    have HQB := Aside0.mk qb
    have HS := Aside0.mk hS
    clear q1 q2 q3 q4 qb bX hr hS
    by_cases hk : x1.f0 = 2
    · have hkb : (x1.f0 != 2) = false := by simp [hk]
      obtain ⟨hsz, hwf⟩ := hP1 hk
      have HKK := Aside0.mk hk
      have hkey := WideMaps.keyOf_string_mk (P := Tryd.prog) Tryd.underlying9 hsz
      obtain ⟨D, hown, hVM⟩ := HQ3.out
      have HVM := Aside0.mk hVM
      have HWF := Aside0.mk hwf
      have HN := Aside0.mk (show (pre.map (·.1.1)).length < maxLen by rw [List.length_map]; exact Nat.lt_of_lt_of_le (Nat.lt_of_lt_of_le hlt hn) (by unfold maxLen; omega))
      have HKEY := Aside0.mk hkey
      have HOWN := Aside0.mk hown
      clear hk hsz hVM hwf hkey hown
      gi_wp2_with (first | (gi_at_lookup; refine wpListIn_lookup_own_ok_int W rfl _ _ _ rfl 9 3 .i64 (Maps.string_keyed Tryd.underlying9) Tryd.underlying74 Tryd.underlying3 (by rfl) _ _ D rfl HOWN.out _ _ rfl HKEY.out ?_; intro c hat hwc) | (gi_at_mapUpdate; go_loud (refine wpListIn_mapUpdate_own W rfl _ _ _ 74 rfl 9 3 (Maps.string_keyed Tryd.underlying9) Tryd.underlying74 _ _ _ D rfl HOWN.out HN.out _ _ _ rfl rfl HKEY.out _ [] (plainElem_int Tryd.underlying3 HWF.out) ?_); intro W5 hown5 hgrow5))
      · rename_i hh hcn
        have hb1 : Below w.heap.size w ((W.setCell ⟨w.heap.size + 1, 0, none⟩ (.map none)).setCell ⟨w.heap.size + 1 + 1, 0, none⟩ (.bool false)) := below_set (below_set HQB.out q29_) q29_
        refine ⟨((KeepsOthers.setCell _ _ _).from _).trans ((KeepsOthers.setCell _ _ _).from _), ⟨⟨⟨(HQ1.out.set _).other q29_ _, (HQ2.out.other q29_ _).set _⟩, rfl⟩, ?_⟩, hb1⟩
        rw [List.map_append]
        exact HVM.out.clash x1 HKK.out c hat hh (by simpa using hcn)
      · rename_i hh hcn
        have hkp := (KpB.refl w.heap.size (w.heap.size + 6) W).grown hgrow5 (by have := HS.out; omega) (fun k e => by cases e; omega)
        refine ⟨KeepsFrom.of_grownBy hgrow5 (fun j e => by cases e; omega), hkp, ⟨⟨⟨HQ1.out.kept hgrow5 (fun e => by have := Option.some.inj e; omega), HQ2.out.kept hgrow5 (fun e => by have := Option.some.inj e; omega)⟩, HQ4.out.kept hgrow5 (fun e => by have := Option.some.inj e; omega)⟩, ?_⟩, HQB.out.trans hkp.below, Nat.le_trans HS.out hgrow5.size⟩
        rw [List.map_append]
        exact ⟨_, hown5.mono (by rw [List.length_append]; exact Nat.le_refl _), HVM.out.put x1 HKK.out c hat (fun _ => by simpa using hcn)⟩
      · rename_i hh
        have hkp := (KpB.refl w.heap.size (w.heap.size + 6) W).grown hgrow5 (by have := HS.out; omega) (fun k e => by cases e; omega)
        refine ⟨KeepsFrom.of_grownBy hgrow5 (fun j e => by cases e; omega), hkp, ⟨⟨⟨HQ1.out.kept hgrow5 (fun e => by have := Option.some.inj e; omega), HQ2.out.kept hgrow5 (fun e => by have := Option.some.inj e; omega)⟩, HQ4.out.kept hgrow5 (fun e => by have := Option.some.inj e; omega)⟩, ?_⟩, HQB.out.trans hkp.below, Nat.le_trans HS.out hgrow5.size⟩
        rw [List.map_append]
        exact ⟨_, hown5.mono (by rw [List.length_append]; exact Nat.le_refl _), HVM.out.put x1 HKK.out c hat (fun h => absurd h hh)⟩
    · have hkb : (x1.f0 != 2) = true := by simp [hk]
      have HKK := Aside0.mk hk
      clear hk
      gi_wp2
      refine ⟨KeepsFrom.refl _ _, KpB.refl _ _ _, ⟨⟨⟨HQ1.out, HQ2.out⟩, HQ4.out⟩, ?_⟩, HQB.out, HS.out⟩
      obtain ⟨D, h1, h2⟩ := HQ3.out
      exact ⟨D, by rw [List.map_append]; exact h1.mono (by simp), by rw [List.map_append]; exact h2.skip x1 HKK.out⟩
  case done =>
    rintro D ys W hD hys ⟨⟨⟨⟨q1, q2⟩, q4⟩, q3⟩, qb, hS⟩ hKD
    have c4 := q4.cell
    have d1 := q1.cell
    have d2 := q2.cell
    have f1 := q1.frozen
    have f2 := q2.frozen
    rw [hys] at q3
    have HQ1 := Aside0.mk q1
    have HQ2 := Aside0.mk q2
    have HQ3 := Aside0.mk q3
    have HQB := Aside0.mk qb
    have HKD := Aside0.mk hKD
    clear q1 q2 q3 q4 qb hKD hys
    gi_wp2
    have kD := defer_other (j := 0) (v := .bool true) (defer_other (j := 0) (v := .map (some (w.heap.size + 1 + 1 + 1))) HKD.out (show w.heap.size + 1 < D by omega)) (show w.heap.size + 1 + 1 < D by omega)
    refine ⟨by simp, .inl ⟨_, _, rfl, run_takeDeferred kD, ?_⟩⟩
    have s1 := (HQ1.out.set (.map (some (w.heap.size + 1 + 1 + 1)))).other (B' := w.heap.size + 1 + 1) q29_ (.bool true)
    have s2 := (HQ2.out.other (B' := w.heap.size + 1) q29_ (.map (some (w.heap.size + 1 + 1 + 1)))).set (.bool true)
    refine ⟨_, results_boxed (p := 2) (p' := 3) q28_ _ _ (w.heap.size + 1) (w.heap.size + 1 + 1) _ _ _ _ _ _ rfl (boxed_put s1 q29_ _) Tryd.underlying74 rfl rfl (boxed_put s2 q29_ _) Tryd.underlying4 rfl, ?_⟩
    have hb1 : Below w.heap.size w ((W.setCell ⟨w.heap.size + 1, 0, none⟩ (.map (some (w.heap.size + 1 + 1 + 1)))).setCell ⟨w.heap.size + 1 + 1, 0, none⟩ (.bool true)) := below_set (below_set HQB.out q29_) q29_
    refine ⟨hb1.trans (belowK_b (w := w) (Nat.le_refl _) _ D _ _ q29_ kD rfl rfl), .inl ⟨w.heap.size + 1 + 1 + 1, by omega, rfl, ?_, ?_⟩⟩
    · obtain ⟨D', _, h2⟩ := HQ3.out
      exact h2.ok
    · exact ((HQ3.out.kept (grownBy_setCell' W (w.heap.size + 1) _) (fun e => by have := Option.some.inj e; omega)).kept (grownBy_setCell' _ (w.heap.size + 1 + 1) _) (fun e => by have := Option.some.inj e; omega)).kept (grownBy_putObj' _ D _) (fun e => by have := Option.some.inj e; omega)
  case stop =>
    rintro D c pre W hD hpre ⟨⟨⟨⟨q1, q2⟩, rfl⟩, q3⟩, qb⟩ hKD
    have HQ1 := Aside0.mk q1
    have HQ2 := Aside0.mk q2
    have HQ3 := Aside0.mk q3
    have HQB := Aside0.mk qb
    have HKD := Aside0.mk hKD
    clear q1 q2 q3 qb hKD
    gi_wp2
    refine ⟨by simp, .inl ⟨_, _, rfl, run_takeDeferred HKD.out, ?_⟩⟩
    refine ⟨_, results_boxed (p := 2) (p' := 3) q28_ _ _ (w.heap.size + 1) (w.heap.size + 1 + 1) _ _ _ _ _ _ rfl (boxed_put HQ1.out q29_ _) Tryd.underlying74 rfl rfl (boxed_put HQ2.out q29_ _) Tryd.underlying4 rfl, ?_⟩
    exact ⟨HQB.out.trans (belowK_b (w := w) (Nat.le_refl _) _ D _ _ q29_ HKD.out rfl rfl), .inr ⟨rfl, fun h => HQ3.out (vOk_prefix hpre h)⟩⟩
end Go.Proofs.YtjopdafckhkmmaaDoor.MBS
