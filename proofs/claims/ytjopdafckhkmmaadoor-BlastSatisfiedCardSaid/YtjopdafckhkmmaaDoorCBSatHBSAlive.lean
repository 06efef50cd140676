/- The chapter's example, by hand: the circuit of 'and' of two variables of two bits. -/
import Derived.Test.YtjopdafckhkmmaaDoorCBSatHBSBlastM
import Derived.Test.YtjopdafckhkmmaaDoorCBSatHBSRun
import Derived.Test.YtjopdafckhkmmaaDoorCBSatMBSx5
import Derived.Test.YtjopdafckhkmmaaDoorCBSatMBSx5
set_option linter.unusedVariables false
set_option linter.unusedSimpArgs false
namespace Go.Proofs.YtjopdafckhkmmaaDoor.MBS
open Go.Proofs.YtjopdafckhkmmaaDoor.Zed Go.RowKit Go.Proofs.YtjopdafckhkmmaaDoorW.PrintWords Go.Proofs.YtjopdafckhkmmaaDoorW.PrintLast Go.Proofs.YtjopdafckhkmmaaDoorW.PrintMore
attribute [local go_sem] Oper.semAt_some
set_option maxRecDepth 100000 in
theorem results_term {fn : Func} {p : Tmp} (h : fn.results = #[.cell p 25]) (tmps : Array Value) (W : World) (b : Nat) (v0 v1 v2 v3 v4 v5 : Value) (h2 : tmps.getD p undef = .pointer (some ⟨b, 0, none⟩)) (hb : W.heap[b]? = some (.cells #[v0, v1, v2, v3, v4, v5] 25 (0, 0))) :
    (results fn tmps).run Tryd.prog W = .ok (.agg #[v0, v1, v2, v3, v4, v5]) W := by
  have c0 : W.cell? ⟨b, 0, none⟩ = some v0 := (blk_cell hb 0).trans rfl
  have c1 : W.cell? ⟨b, 1, none⟩ = some v1 := (blk_cell hb 1).trans rfl
  have c2 : W.cell? ⟨b, 2, none⟩ = some v2 := (blk_cell hb 2).trans rfl
  have c3 : W.cell? ⟨b, 3, none⟩ = some v3 := (blk_cell hb 3).trans rfl
  have c4 : W.cell? ⟨b, 4, none⟩ = some v4 := (blk_cell hb 4).trans rfl
  have c5 : W.cell? ⟨b, 5, none⟩ = some v5 := (blk_cell hb 5).trans rfl
  have e2 : tmps[p]?.getD undef = .pointer (some ⟨b, 0, none⟩) := by simpa using h2
  have hu := Tryd.underlying25
  simp [results, h, go_sem, e2, c0, c1, c2, c3, c4, c5, hu]
set_option maxRecDepth 100000 in
theorem variable_any (s : ByteArray) (n : Int) (w : World) :
    Calls Tryd.prog 13 #[.string s, .int .i64 n] w fun e w' => e = .returned (.agg #[.int .u8 2, .int .i64 n, .int .u64 0, .string s, .int .i64 0, .slice none 0 0]) ∧ Below w.heap.size w w' := by
  have hu := Tryd.underlying25
  go_enter Tryd.func13, Tryd.ntmps13
  go_wp2
  refine bodyPost_ret (results_term (p := 4) q28_ _ _ w.heap.size _ _ _ _ _ _ rfl (blk_new _ _)) rfl ?_
  exact ⟨rfl, below_alloc (Below.refl _ _) _⟩
set_option maxRecDepth 100000 in
theorem op_any (k n : Int) (A : Option Addr) (l c : Nat) (w : World) :
    Calls Tryd.prog 14 #[.int .u8 k, .int .i64 n, .slice A l c] w fun e w' => e = .returned (.agg #[.int .u8 k, .int .i64 n, .int .u64 0, .string ⟨#[]⟩, .int .i64 0, .slice A l c]) ∧ Below w.heap.size w w' := by
  have hu := Tryd.underlying25
  go_enter Tryd.func14, Tryd.ntmps14
  go_wp2
  refine bodyPost_ret (results_term (p := 6) q28_ _ _ w.heap.size _ _ _ _ _ _ rfl (blk_new _ _)) rfl ?_
  exact ⟨rfl, below_alloc (Below.refl _ _) _⟩
/-- The example's term. -/
def tA : Tm := .mk 2 2 0 ⟨#[97]⟩ 0 []
def tB : Tm := .mk 2 2 0 ⟨#[98]⟩ 0 []
def t0 : Tm := .mk 8 2 0 ⟨#[]⟩ 0 [tA, tB]
theorem nd_t0 : nd t0 = [t0, tA, tB] := by simp [t0, tA, tB, nd, ndL]
theorem t0_depth : term_Depth.f 5 t0.f0 t0.f1 t0.f2 t0.f3 t0.f4 t0.f5 = some 2 := by kernel_rfl
theorem t0_nok : ∀ y ∈ nd t0, NOk 5 y := by
  rw [nd_t0]
  intro y hy
  simp only [List.mem_cons, List.not_mem_nil, or_false] at hy
  rcases hy with rfl | rfl | rfl
  · exact ⟨by decide, true, by kernel_rfl⟩
  · exact ⟨by decide, true, by kernel_rfl⟩
  · exact ⟨by decide, true, by kernel_rfl⟩
theorem t0_chk : chkR 5 t0 2 = 0 := by
  have h : (nd t0).all (nodeB 5) = true := by
    rw [nd_t0]
    kernel_rfl
  have hv : vOk (nd t0) := by
    rw [nd_t0]
    decide +kernel
  rw [chkR, if_neg (by rw [nd_t0]; decide), if_pos h, if_pos hv]
theorem t0_pure : pureB 5 t0 2 = true := by
  rw [pureB, t0_chk, nd_t0]
  kernel_rfl
theorem t0_nb : ∀ y ∈ nd t0, NB y := by
  rw [nd_t0]
  intro y hy
  simp only [List.mem_cons, List.not_mem_nil, or_false] at hy
  rcases hy with rfl | rfl | rfl
  · exact ⟨by decide, by decide, .inr ⟨rfl, tA, tB, rfl, rfl, rfl⟩⟩
  · exact ⟨by decide, by decide, .inl ⟨rfl, by decide, by decide⟩⟩
  · exact ⟨by decide, by decide, .inl ⟨rfl, by decide, by decide⟩⟩
theorem t0_cn : ∀ y ∈ nd t0, CN y := by
  rw [nd_t0]
  intro y hy
  simp only [List.mem_cons, List.not_mem_nil, or_false] at hy
  rcases hy with rfl | rfl | rfl
  · exact ⟨by decide, by decide, by decide, by decide, (fun h => by cases h), by decide, by decide⟩
  · exact ⟨by decide, by decide, by decide, by decide, fun h => .inr rfl, by decide, by decide⟩
  · exact ⟨by decide, by decide, by decide, by decide, fun h => .inr rfl, by decide, by decide⟩
theorem t0_tot : totF (nd t0) = 2 := by rw [nd_t0]; decide +kernel
theorem t0_cst : cst (nd t0) ≤ (totF (nd t0)).toNat := by rw [t0_tot, nd_t0]; decide +kernel
/-- Rows of variables that rise by name and hold the same are the same. -/
theorem VS.uniq {l : List Tm} : ∀ {vs us : List Bg}, VS l vs → VS l us → vs = us := by
  have key : ∀ (vs us : List Bg), (∀ b ∈ vs, b.f2 = 0) → (∀ b ∈ us, b.f2 = 0) → (∀ s c, (∃ b ∈ vs, b.f0 = s ∧ b.f1 = c) ↔ ∃ b ∈ us, b.f0 = s ∧ b.f1 = c) → vs.Pairwise (fun a b => cfB a b < 0) → us.Pairwise (fun a b => cfB a b < 0) → vs = us := by
    intro vs
    induction vs with
    | nil =>
      intro us _ _ hm _ _
      cases us with
      | nil => rfl
      | cons u us =>
        obtain ⟨_, h, _⟩ := (hm u.f0 u.f1).2 ⟨u, by simp, rfl, rfl⟩
        simp at h
    | cons v vs ih =>
      intro us h2 k2 hm hs ks
      cases us with
      | nil =>
        obtain ⟨_, h, _⟩ := (hm v.f0 v.f1).1 ⟨v, by simp, rfl, rfl⟩
        simp at h
      | cons u us =>
        have hv := List.pairwise_cons.1 hs
        have hu := List.pairwise_cons.1 ks
        have self : ∀ b : Bg, ¬ cfB b b < 0 := fun b h => by
          have : cfB b b = 0 := cb_self _
          omega
        have same : ∀ a b : Bg, a.f0 = b.f0 → a.f1 = b.f1 → a.f2 = 0 → b.f2 = 0 → a = b := fun a b e1 e2 e3 e4 => by
          cases a; cases b
          simp only at e1 e2 e3 e4
          rw [e1, e2, e3, e4]
        have e : v = u := by
          obtain ⟨b, hb, e0, e1⟩ := (hm v.f0 v.f1).1 ⟨v, by simp, rfl, rfl⟩
          obtain ⟨a, ha, d0, d1⟩ := (hm u.f0 u.f1).2 ⟨u, by simp, rfl, rfl⟩
          rcases List.mem_cons.1 hb with rfl | hb
          · exact same _ _ e0.symm e1.symm (h2 v (by simp)) (k2 _ (by simp))
          · rcases List.mem_cons.1 ha with rfl | ha
            · exact same _ _ d0 d1 (h2 _ (by simp)) (k2 u (by simp))
            · have h1 := hv.1 a ha
              have h3 := hu.1 b hb
              have h4 : cfB v u < 0 := by
                show Lib.compareBytes v.f0.data.toList u.f0.data.toList < 0
                rw [← d0]
                exact h1
              have h5 : cfB u v < 0 := by
                show Lib.compareBytes u.f0.data.toList v.f0.data.toList < 0
                rw [← e0]
                exact h3
              exact absurd (cb_trans _ _ _ h4 h5) (self v)
        subst e
        congr 1
        refine ih us (fun b hb => h2 b (by simp [hb])) (fun b hb => k2 b (by simp [hb])) (fun s c => ?_) hv.2 hu.2
        constructor
        · rintro ⟨b, hb, e0, e1⟩
          obtain ⟨a, ha, d0, d1⟩ := (hm s c).1 ⟨b, by simp [hb], e0, e1⟩
          rcases List.mem_cons.1 ha with rfl | ha
          · have h1 := hv.1 b hb
            have : cfB a b = 0 := by
              show Lib.compareBytes a.f0.data.toList b.f0.data.toList = 0
              rw [d0, e0]
              exact cb_self _
            omega
          · exact ⟨a, ha, d0, d1⟩
        · rintro ⟨b, hb, e0, e1⟩
          obtain ⟨a, ha, d0, d1⟩ := (hm s c).2 ⟨b, by simp [hb], e0, e1⟩
          rcases List.mem_cons.1 ha with rfl | ha
          · have h1 := hu.1 b hb
            have : cfB a b = 0 := by
              show Lib.compareBytes a.f0.data.toList b.f0.data.toList = 0
              rw [d0, e0]
              exact cb_self _
            omega
          · exact ⟨a, ha, d0, d1⟩
  intro vs us h k
  exact key vs us h.bits k.bits (fun s c => (h.mem s c).trans (k.mem s c).symm) h.sorted k.sorted
def vs0 : List Bg := [.mk ⟨#[97]⟩ 2 0, .mk ⟨#[98]⟩ 2 0]
theorem vs0_VS : VS (nd t0) vs0 := by
  rw [nd_t0]
  refine ⟨by intro b hb; simp [vs0] at hb; rcases hb with rfl | rfl <;> rfl, fun s c => ?_, by decide +kernel⟩
  constructor
  · rintro ⟨b, hb, rfl, rfl⟩
    simp [vs0] at hb
    rcases hb with rfl | rfl
    · exact ⟨tA, by simp, rfl, rfl, rfl⟩
    · exact ⟨tB, by simp, rfl, rfl, rfl⟩
  · rintro ⟨x, hx, h2, rfl, rfl⟩
    simp only [List.mem_cons, List.not_mem_nil, or_false] at hx
    rcases hx with rfl | rfl | rfl
    · cases h2
    · exact ⟨.mk ⟨#[97]⟩ 2 0, by simp [vs0], rfl, rfl⟩
    · exact ⟨.mk ⟨#[98]⟩ 2 0, by simp [vs0], rfl, rfl⟩
def ins0 : List Ci := [.mk ⟨#[97]⟩ 0, .mk ⟨#[97]⟩ 1, .mk ⟨#[98]⟩ 0, .mk ⟨#[98]⟩ 1]
theorem ins0_eq : insOf vs0 = ins0 := by rfl
def gs0 : List Gt := [.mk 2 6, .mk 4 8]
theorem p0_eq : pTerm 4 (atIns ins0) [] t0 = (gs0, [10, 12]) := by
  have h5 : t0.f5 ≠ [] := by simp [t0]
  rw [pTerm_node _ _ _ _ h5]
  have hL : pTermL 4 (atIns ins0) [] t0.f5 = ([], [[2, 4], [6, 8]]) := by
    show pTermL 4 (atIns ins0) [] [tA, tB] = _
    simp only [pTermL]
    rw [pTerm_leaf _ _ _ tA rfl, pTerm_leaf _ _ _ tB rfl]
    kernel_rfl
  rw [hL]
  show pOp 4 [] t0 [[2, 4], [6, 8]] = _
  kernel_rfl
def env0 : List Bg := [.mk ⟨#[97]⟩ 2 3, .mk ⟨#[98]⟩ 2 2]
theorem in0 : blast_Inputs.f 40 ins0 gs0 [10, 12] env0 = some ([true, true, false, true], 0) := by kernel_rfl
theorem run0 : blast_Run.f 40 ins0 gs0 [10, 12] [true, true, false, true] = some ([false, true], 0) := by kernel_rfl
theorem sb0 : retargetref04_SameBools.f 10 [true, true, false, true] [true, true, false, true] = some true := by kernel_rfl
theorem sb1 : retargetref04_SameBools.f 10 [false, true] [false, true] = some true := by kernel_rfl
/-- The circuit of the example. -/
theorem blast0 (A : Option Addr) (l c : Nat) (cs : List Value) (w : World) (hK : kT.K w t0 cs) (hT : Tab w) : Calls Tryd.prog 8 #[.agg cs.toArray] w fun e w' => Below w.heap.size w w' ∧ ∃ vI vG vO, e = .returned (.tuple #[.agg #[vI, vG, vO], .int .i64 0]) ∧
    kC.R 44 w' w.heap.size (fun _ => True) vI ins0 ∧ k49.R 49 w' w.heap.size (fun _ => True) vG gs0 ∧ kI.R 3 w' w.heap.size (fun _ => True) vO [10, 12] := by
  refine (Blast_calls 5 t0 cs 2 w hK hT (by rw [nd_t0]; decide) t0_depth t0_nok t0_chk t0_pure t0_nb t0_cn t0_cst).mono ?_
  rintro e w' ⟨hb, vs, hvs, h⟩
  obtain rfl := hvs.uniq vs0_VS
  rw [ins0_eq, t0_tot] at h
  rcases h with ⟨h, _⟩ | ⟨_, vI, vG, vO, h1, h2, h3, h4⟩
  · exact absurd h q33_
  · have e4 : ins0.length = 4 := rfl
    rw [e4, p0_eq] at h3 h4
    exact ⟨hb, vI, vG, vO, h1, h2, h3, h4⟩
theorem terms_row (W : World) (g : Nat) (h : W.heap[g]? = some (.cells #[.int .u8 2, .int .i64 2, .int .u64 0, .string ⟨#[97]⟩, .int .i64 0, .slice none 0 0, .int .u8 2, .int .i64 2, .int .u64 0, .string ⟨#[98]⟩, .int .i64 0, .slice none 0 0] 25 (0, 0))) : kT.C W (some ⟨g, 0, none⟩) 2 [tA, tB] := by
  refine ⟨rfl, by omega, fun _ => ⟨⟨g, 0, none⟩, rfl, fun j p hj => ?_⟩⟩
  have hcell : ∀ n, W.cell? (Addr.add ⟨g, 0, none⟩ n) = (#[Value.int .u8 2, .int .i64 2, .int .u64 0, .string ⟨#[97]⟩, .int .i64 0, .slice none 0 0, .int .u8 2, .int .i64 2, .int .u64 0, .string ⟨#[98]⟩, .int .i64 0, .slice none 0 0] : Array Value)[n]? := fun n => by
    have e : Addr.add ⟨g, 0, none⟩ n = ⟨g, n, none⟩ := by simp [Addr.add]; intro h; exact h.symm
    rw [e, blk_cell h n]
  rcases j with _ | _ | j
  · obtain rfl : tA = p := by simpa using hj
    refine ⟨[.int .u8 2, .int .i64 2, .int .u64 0, .string ⟨#[97]⟩, .int .i64 0, .slice none 0 0], rfl, k25_mk W tA (A5 := none) (c5 := 0) (Nat.le_refl _) (Kd.C_nil _ W), fun i u hu => ?_⟩
    rw [hcell]
    rcases i with _ | _ | _ | _ | _ | _ | i
    all_goals first | exact hu | (simp at hu)
  · obtain rfl : tB = p := by simpa using hj
    refine ⟨[.int .u8 2, .int .i64 2, .int .u64 0, .string ⟨#[98]⟩, .int .i64 0, .slice none 0 0], rfl, k25_mk W tB (A5 := none) (c5 := 0) (Nat.le_refl _) (Kd.C_nil _ W), fun i u hu => ?_⟩
    rw [hcell]
    rcases i with _ | _ | _ | _ | _ | _ | i
    all_goals first | exact hu | (simp at hu)
  · simp at hj
theorem env_row (W : World) (g : Nat) (h : W.heap[g]? = some (.cells #[.string ⟨#[97]⟩, .int .i64 2, .int .u64 3, .string ⟨#[98]⟩, .int .i64 2, .int .u64 2] 40 (0, 0))) : Kd.C k40 W (some ⟨g, 0, none⟩) 2 env0 := by
  refine ⟨rfl, by omega, fun _ => ⟨⟨g, 0, none⟩, rfl, fun j p hj => ?_⟩⟩
  have hcell : ∀ n, W.cell? (Addr.add ⟨g, 0, none⟩ n) = (#[Value.string ⟨#[97]⟩, .int .i64 2, .int .u64 3, .string ⟨#[98]⟩, .int .i64 2, .int .u64 2] : Array Value)[n]? := fun n => by
    have e : Addr.add ⟨g, 0, none⟩ n = ⟨g, n, none⟩ := by simp [Addr.add]; intro h; exact h.symm
    rw [e, blk_cell h n]
  rcases j with _ | _ | j
  · obtain rfl : (S40.mk ⟨#[97]⟩ 2 3) = p := by simpa [env0] using hj
    refine ⟨[.string ⟨#[97]⟩, .int .i64 2, .int .u64 3], rfl, k40_mk W _, fun i u hu => ?_⟩
    rw [hcell]
    rcases i with _ | _ | _ | i
    all_goals first | exact hu | (simp at hu)
  · obtain rfl : (S40.mk ⟨#[98]⟩ 2 2) = p := by simpa [env0] using hj
    refine ⟨[.string ⟨#[98]⟩, .int .i64 2, .int .u64 2], rfl, k40_mk W _, fun i u hu => ?_⟩
    rw [hcell]
    rcases i with _ | _ | _ | i
    all_goals first | exact hu | (simp at hu)
  · simp [env0] at hj
theorem bools_row (W : World) (g : Nat) (bs : List Bool) (hl : bs.length ≤ 100) (h : W.heap[g]? = some (.cells (bs.map Value.bool).toArray 4 (0, 0))) : Kd.C Kd.bool W (some ⟨g, 0, none⟩) bs.length bs := by
  refine ⟨rfl, by omega, fun _ => ⟨⟨g, 0, none⟩, rfl, fun j p hj => ⟨[.bool p], rfl, rfl, fun i u hu => ?_⟩⟩⟩
  rcases i with _ | i
  · obtain rfl : Value.bool p = u := by simpa using hu
    have e : Addr.add ⟨g, 0, none⟩ (j * Kd.bool.sz + 0) = ⟨g, j, none⟩ := by
      show Addr.add ⟨g, 0, none⟩ (j * 1 + 0) = _
      rw [Nat.mul_one, Nat.add_zero]
      simp [Addr.add]
      intro h
      exact h.symm
    rw [e, blk_cell h j]
    simp [hj]
  · simp at hu
end Go.Proofs.YtjopdafckhkmmaaDoor.MBS
