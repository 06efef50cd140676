/- Rows of literals in memory and what keeps them; each with an operation of the maker's. -/
import Derived.Test.YtjopdafckhkmmaaDoorCBSatHBSAddF
import Derived.IntWalk
set_option linter.unusedVariables false
set_option linter.unusedSimpArgs false
namespace Go.Proofs.YtjopdafckhkmmaaDoor.MBS
open Go.Proofs.YtjopdafckhkmmaaDoor.Zed Go.RowKit Go.Proofs.YtjopdafckhkmmaaDoorW.PrintWords Go.Proofs.YtjopdafckhkmmaaDoorW.PrintLast Go.Proofs.YtjopdafckhkmmaaDoorW.PrintMore
theorem nat_x1 (n : Nat) : n ^^^ 1 = if n % 2 = 0 then n + 1 else n - 1 := by
  have h1 : (n ^^^ 1) / 2 = n / 2 := by rw [Nat.xor_div_two]; simp
  have h2 : (n ^^^ 1) % 2 = (n + 1) % 2 := by
    have h := Nat.xor_mod_two_pow (a := n) (b := 1) (n := 1)
    simp only [Nat.pow_one] at h
    rw [h]
    rcases Nat.mod_two_eq_zero_or_one n with e | e <;> rw [e] <;> simp <;> omega
  have h3 := Nat.div_add_mod (n ^^^ 1) 2
  split <;> omega
theorem neg_nat (n : Nat) (h : n ≤ 4611686018427387904) : Go.bits .xor .i64 (n : Int) 1 = ((n ^^^ 1 : Nat) : Int) := by
  have e1 : BitVec.ofInt 64 (n : Int) = BitVec.ofNat 64 n := BitVec.ofInt_natCast 64 n
  have e2 : BitVec.ofInt 64 (1 : Int) = BitVec.ofNat 64 1 := BitVec.ofInt_natCast 64 1
  have h2 := nat_x1 n
  have h3 : (n ^^^ 1) < 2 ^ 64 := by split at h2 <;> omega
  unfold Go.bits
  show IntKind.i64.wrap (((BitVec.ofInt 64 (n : Int)) ^^^ (BitVec.ofInt 64 (1 : Int))).toNat : Int) = _
  rw [e1, e2, ← BitVec.ofNat_xor, BitVec.toNat_ofNat, Nat.mod_eq_of_lt h3]
  exact IntWalk.i64_in _ (by split at h2 <;> omega)
/-- The other sign of a literal, by its last bit. -/
theorem neg_eq (a : Int) (h0 : 0 ≤ a) (h1 : a ≤ 4611686018427387904) : neg a = if a % 2 = 0 then a + 1 else a - 1 := by
  obtain ⟨n, rfl⟩ := Int.eq_ofNat_of_zero_le h0
  unfold neg
  rw [neg_nat n q29_, nat_x1]
  split <;> split <;> omega
/-- A literal of one of the nodes. -/
def LitOk (n : Nat) (gs : List Gt) (l : Int) : Prop := 0 ≤ l ∧ l < 2 * ((1 + n + gs.length : Nat) : Int)
theorem LitOk.wf {n : Nat} {gs : List Gt} {l : Int} (h : LitOk n gs l) (hs : n + gs.length ≤ 1000000) : (Lit.int .i64 l).wf = true := by
  obtain ⟨h0, h1⟩ := h
  exact nat_wf h0 q29_
theorem LitOk.mono {n : Nat} {gs gs' : List Gt} {l : Int} (h : LitOk n gs l) (hp : gs <+: gs') : LitOk n gs' l := by
  obtain ⟨h0, h1⟩ := h
  have := hp.length_le
  exact ⟨h0, by omega⟩
theorem LitOk.neg {n : Nat} {gs : List Gt} {l : Int} (h : LitOk n gs l) (hs : n + gs.length ≤ 1000000) : LitOk n gs (neg l) := by
  obtain ⟨h0, h1⟩ := h
  unfold LitOk
  rw [neg_eq l h0 q29_]
  split <;> omega
theorem LitOk.c0 {n : Nat} {gs : List Gt} : LitOk n gs 0 := ⟨by omega, by omega⟩
theorem LitOk.c1 {n : Nat} {gs : List Gt} : LitOk n gs 1 := ⟨by omega, by omega⟩
/-- What an operation of two literals does to the gates: it lays at most q more, and answers a literal. -/
def OpOk (n q : Nat) (pf : List Gt → Int → Int → List Gt × Int) : Prop :=
  ∀ gs x y, LitOk n gs x → LitOk n gs y → n + gs.length + q ≤ 1000000 → gs <+: (pf gs x y).1 ∧ (pf gs x y).1.length ≤ gs.length + q ∧ LitOk n (pf gs x y).1 (pf gs x y).2
theorem pAnd_ok (n : Nat) : OpOk n 1 (pAnd n) := by
  intro gs x y hx hy hs
  have hm : LitOk n gs (max x y) := by
    rcases Int.le_total x y with h | h
    · rw [Int.max_eq_right h]; exact hy
    · rw [Int.max_eq_left h]; exact hx
  unfold pAnd pAnd2
  split
  · exact ⟨List.prefix_refl _, Nat.le_succ _, .c0⟩
  · split
    · exact ⟨List.prefix_refl _, Nat.le_succ _, .c0⟩
    · split
      · exact ⟨List.prefix_refl _, Nat.le_succ _, hm⟩
      · split
        · exact ⟨List.prefix_refl _, Nat.le_succ _, hm⟩
        · split
          · rename_i i hi
            have h1 := (List.findIdx?_eq_some_iff_getElem.1 hi).1
            exact ⟨List.prefix_refl _, Nat.le_succ _, by show 0 ≤ 2 * ((n + i + 1 : Nat) : Int); omega, by show 2 * ((n + i + 1 : Nat) : Int) < 2 * ((1 + n + gs.length : Nat) : Int); omega⟩
          · exact ⟨List.prefix_append _ _, by simp, by show 0 ≤ 2 * ((n + gs.length + 1 : Nat) : Int); omega, by show 2 * ((n + gs.length + 1 : Nat) : Int) < _; rw [List.length_append]; simp; omega⟩
theorem pOr_ok (n : Nat) : OpOk n 1 (pOr n) := by
  intro gs x y hx hy hs
  obtain ⟨h1, h2, h3⟩ := pAnd_ok n gs (neg x) (neg y) (hx.neg q29_) (hy.neg q29_) hs
  exact ⟨h1, h2, h3.neg q29_⟩
theorem pXor_ok (n : Nat) : OpOk n 3 (pXor n) := by
  intro gs x y hx hy hs
  obtain ⟨a1, a2, a3⟩ := pAnd_ok n gs x y hx hy q29_
  obtain ⟨b1, b2, b3⟩ := pOr_ok n (pAnd n gs x y).1 x y (hx.mono a1) (hy.mono a1) q29_
  obtain ⟨c1, c2, c3⟩ := pAnd_ok n (pOr n (pAnd n gs x y).1 x y).1 (neg (pAnd n gs x y).2) (pOr n (pAnd n gs x y).1 x y).2 ((a3.neg q29_).mono b1) b3 q29_
  exact ⟨(a1.trans b1).trans c1, by show (pAnd n (pOr n (pAnd n gs x y).1 x y).1 (neg (pAnd n gs x y).2) (pOr n (pAnd n gs x y).1 x y).2).1.length ≤ _; omega, c3⟩
theorem pMux_ok (n : Nat) (s : Int) (gs0 : List Gt) (hs : LitOk n gs0 s) : ∀ gs x y, gs0 <+: gs → LitOk n gs x → LitOk n gs y → n + gs.length + 3 ≤ 1000000 → gs <+: (pMux n gs s x y).1 ∧ (pMux n gs s x y).1.length ≤ gs.length + 3 ∧ LitOk n (pMux n gs s x y).1 (pMux n gs s x y).2 := by
  intro gs x y h0 hx hy hb
  have hs' := hs.mono h0
  obtain ⟨a1, a2, a3⟩ := pAnd_ok n gs s x hs' hx q29_
  obtain ⟨b1, b2, b3⟩ := pAnd_ok n (pAnd n gs s x).1 (neg s) y ((hs'.neg q29_).mono a1) (hy.mono a1) q29_
  obtain ⟨c1, c2, c3⟩ := pOr_ok n (pAnd n (pAnd n gs s x).1 (neg s) y).1 (pAnd n gs s x).2 (pAnd n (pAnd n gs s x).1 (neg s) y).2 (a3.mono b1) b3 q29_
  exact ⟨(a1.trans b1).trans c1, by show (pOr n (pAnd n (pAnd n gs s x).1 (neg s) y).1 (pAnd n gs s x).2 (pAnd n (pAnd n gs s x).1 (neg s) y).2).1.length ≤ _; omega, c3⟩
theorem pFull_ok (n : Nat) (gs : List Gt) (c x y : Int) (hx : LitOk n gs x) (hy : LitOk n gs y) (hc : LitOk n gs c) (hb : n + gs.length + 9 ≤ 1000000) :
    gs <+: (pFull n (gs, c) x y).1.1 ∧ (pFull n (gs, c) x y).1.1.length ≤ gs.length + 9 ∧ LitOk n (pFull n (gs, c) x y).1.1 (pFull n (gs, c) x y).1.2 ∧ LitOk n (pFull n (gs, c) x y).1.1 (pFull n (gs, c) x y).2 := by
  obtain ⟨a1, a2, a3⟩ := pXor_ok n gs x y hx hy q29_
  obtain ⟨b1, b2, b3⟩ := pXor_ok n (pXor n gs x y).1 (pXor n gs x y).2 c a3 (hc.mono a1) q29_
  have p2 := a1.trans b1
  obtain ⟨c1, c2, c3⟩ := pAnd_ok n (pXor n (pXor n gs x y).1 (pXor n gs x y).2 c).1 x y (hx.mono p2) (hy.mono p2) q29_
  obtain ⟨d1, d2, d3⟩ := pAnd_ok n (pAnd n (pXor n (pXor n gs x y).1 (pXor n gs x y).2 c).1 x y).1 (pXor n gs x y).2 c ((a3.mono b1).mono c1) ((hc.mono p2).mono c1) q29_
  obtain ⟨e1, e2, e3⟩ := pOr_ok n (pAnd n (pAnd n (pXor n (pXor n gs x y).1 (pXor n gs x y).2 c).1 x y).1 (pXor n gs x y).2 c).1 (pAnd n (pXor n (pXor n gs x y).1 (pXor n gs x y).2 c).1 x y).2 (pAnd n (pAnd n (pXor n (pXor n gs x y).1 (pXor n gs x y).2 c).1 x y).1 (pXor n gs x y).2 c).2 (c3.mono d1) d3 q29_
  refine ⟨((p2.trans c1).trans d1).trans e1, ?_, e3, ((b3.mono c1).mono d1).mono e1⟩
  show (pOr n (pAnd n (pAnd n (pXor n (pXor n gs x y).1 (pXor n gs x y).2 c).1 x y).1 (pXor n gs x y).2 c).1 (pAnd n (pXor n (pXor n gs x y).1 (pXor n gs x y).2 c).1 x y).2 (pAnd n (pAnd n (pXor n (pXor n gs x y).1 (pXor n gs x y).2 c).1 x y).1 (pXor n gs x y).2 c).2).1.length ≤ _
  omega

/-- A row of ints that stands in a block of ints. -/
def RI (W : World) (v : Value) (xs : List Int) : Prop :=
  xs.length ≤ 1000000 ∧ ∃ A c, v = .slice A xs.length c ∧ xs.length ≤ c ∧ c ≤ maxLen ∧ (0 < xs.length → ∃ g o cells, A = some ⟨g, o, none⟩ ∧ W.heap[g]? = some (.cells cells 3 (0, 0)) ∧ ∀ i x, xs[i]? = some x → cells[o + i]? = some (.int .i64 x))
/-- The blocks of ints stand. -/
def KI (W W' : World) : Prop := ∀ (k : Nat) (cs : Array Value), W.heap[k]? = some (.cells cs 3 (0, 0)) → W'.heap[k]? = some (.cells cs 3 (0, 0))
theorem KI.refl (W : World) : KI W W := fun _ _ h => h
theorem KI.trans {X Y Z : World} (h : KI X Y) (k : KI Y Z) : KI X Z := fun i cs hi => k i cs (h i cs hi)
theorem RI.keep {W W' : World} {v : Value} {xs : List Int} (h : RI W v xs) (k : KI W W') : RI W' v xs := by
  obtain ⟨h0, A, c, hv, hc, hm, h1⟩ := h
  refine ⟨h0, A, c, hv, hc, hm, fun hp => ?_⟩
  obtain ⟨g, o, cells, hA, hg, hx⟩ := h1 hp
  exact ⟨g, o, cells, hA, k _ _ hg, hx⟩
theorem RI.of_R {W : World} {base : Nat} {ok : Nat → Prop} {v : Value} {xs : List Int} (h : kI.R 3 W base ok v xs) (hl : xs.length ≤ 1000000) : RI W v xs := by
  obtain ⟨h0, inner, ho, hr⟩ := h
  refine ⟨hl, ?_⟩
  rcases ho.2 with ⟨hv, hn⟩ | ⟨g, cap, cur, hv, hb, hg, hn, hm, hs, ht⟩
  · have hx := List.eq_nil_of_length_eq_zero hn
    subst hx
    exact ⟨none, 0, hv, Nat.le_refl _, by simp [maxLen], fun h => absurd h (by simp)⟩
  · refine ⟨some ⟨g, 0, none⟩, cap, hv, hn, hm, fun _ => ⟨g, 0, cur, rfl, hg, fun i x hx => ?_⟩⟩
    have h1 := hr.2 i x hx
    have hsz : kI.sz = 1 := rfl
    have h2 : (inner.drop (i * 1)).take 1 = [.int .i64 x] := h1
    have hlt := (List.getElem?_eq_some_iff.1 hx).1
    rw [← ht, hsz, Nat.mul_one, Nat.mul_one] at h2
    have h3 : inner[i]? = some (.int .i64 x) := by
      have h4 : (inner.drop i)[0]? = some (.int .i64 x) := by
        have : ((inner.drop i).take 1)[0]? = some (.int .i64 x) := by
          rw [← ht, hsz, Nat.mul_one]
          rw [h2]; rfl
        rw [List.getElem?_take_of_lt q29_] at this
        exact this
      rw [List.getElem?_drop] at h4
      simpa using h4
    rw [← ht, hsz, Nat.mul_one] at h3
    rw [List.getElem?_take_of_lt hlt] at h3
    simpa using h3
theorem RI.read {W : World} {v : Value} {xs : List Int} (h : RI W v xs) : ∃ A c, v = .slice A xs.length c ∧ xs.length ≤ c ∧ c ≤ maxLen ∧ kI.C W A xs.length xs := by
  obtain ⟨h0, A, c, hv, hc, hm, h1⟩ := h
  refine ⟨A, c, hv, hc, hm, rfl, by omega, fun hp => ?_⟩
  obtain ⟨g, o, cells, hA, hg, hx⟩ := h1 hp
  refine ⟨⟨g, o, none⟩, hA, fun j p hj => ⟨[.int .i64 p], rfl, rfl, fun i u hu => ?_⟩⟩
  have hi : i = 0 := by
    have := (List.getElem?_eq_some_iff.1 hu).1
    simp at this
    omega
  subst hi
  obtain rfl : Value.int .i64 p = u := by simpa using hu
  have h2 := blk_cell hg (o + j)
  rw [hx j p hj] at h2
  have e : (⟨g, o, none⟩ : Addr).add (j * kI.sz + 0) = ⟨g, o + j, none⟩ := by
    show Addr.add ⟨g, o, none⟩ (j * 1 + 0) = _
    rw [Nat.mul_one, Nat.add_zero]
    simp [Addr.add]
  rw [e]
  exact h2
theorem KI.of_below {W W' : World} (hb : Below W.heap.size W W') : KI W W' := fun _ _ h => blk_below h hb
theorem KI.of_keep {base bs : Nat} {W W' : World} (h : MKeep base bs W W') (hbs : ∀ o, W.heap[bs]? = some o → o.isCells = false) : KI W W' := fun k cs hk =>
  h.keep k _ hk (fun e => by subst e; have := hbs _ hk; cases this) (fun cs' q fr e => by cases e; decide)
theorem MK.noCells {nIn : Nat} {W : World} {base g : Nat} {vI vO : Value} {bs ba : Nat} {gs : List Gt} (h : MK nIn W base g vI vO bs ba gs) : ∀ o, W.heap[bs]? = some o → o.isCells = false := fun o ho => by
  obtain ⟨D, ⟨es, c, h1, _⟩, _⟩ := h.map
  rw [h1] at ho
  cases ho
  rfl
theorem MK.ki {nIn : Nat} {W W' : World} {base g : Nat} {vI vO : Value} {bs ba : Nat} {gs : List Gt} (h : MK nIn W base g vI vO bs ba gs) (k : MKeep base bs W W') : KI W W' := KI.of_keep k h.noCells
/-- The maker beside a row of ints that grows. -/
theorem MK.grownI {nIn : Nat} {W W' : World} {base g : Nat} {vI vO : Value} {bs ba : Nat} {gs : List Gt} (h : MK nIn W base g vI vO bs ba gs) {row : Option Nat} (hg : W.grownBy W' row) (hr : ∀ k, row = some k → ∃ cells, W.heap[k]? = some (.cells cells 3 (0, 0))) : MK nIn W' base g vI vO bs ba gs := by
  have hne : ∀ (k : Nat) (o : Obj), W.heap[k]? = some o → (∀ cs, o ≠ .cells cs 3 (0, 0)) → some k ≠ row := fun k o ho hc e => by
    obtain ⟨cells, h1⟩ := hr k e.symm
    rw [ho] at h1
    exact hc _ (Option.some.inj h1)
  obtain ⟨h1, ⟨vG, h2, h3⟩, ⟨D, h4, h5⟩, h6, h7⟩ := h
  refine ⟨h1, ⟨vG, blk_grown h2 hg (hne _ _ h2 (fun cs e => by cases e)), ?_⟩, ⟨D, ?_, h5⟩, h6, h7⟩
  · refine Kd.R_mono (Kd.R_move (Kd.R_bound h3) (fun k hk => ?_)) (fun _ _ => trivial)
    obtain ⟨_, _, hlt, q, hq, cells, hc⟩ := hk
    refine hg.block k hlt (hne k _ hc (fun cs e => ?_))
    cases e
    revert hq
    decide
  · obtain ⟨es, cl, e1, e2⟩ := h4
    exact ⟨es, cl, blk_grown e1 hg (hne _ _ e1 (fun cs e => by cases e)), e2⟩
theorem MKeep.grownNew {base bs n1 : Nat} {W0 W W' : World} (h : MKeep base bs W0 W) (hn : n1 = W0.heap.size) (hbW : base ≤ n1) {row : Option Nat} (hg : W.grownBy W' row) (hr : ∀ k, row = some k → n1 ≤ k) : MKeep base bs W0 W' :=
  ⟨h.below.grown hg (by have := h.below.size; omega) (fun k e => Nat.le_trans hbW (hr k e)), fun k o ho hk ht => blk_grown (h.keep k o ho hk ht) hg (fun e => by have := hr k e.symm; have := blk_lt ho; omega)⟩
theorem KI.keepI {n1 : Nat} {W W' : World} (h : KI W W') (hs : W.heap.size ≤ W'.heap.size) : KeepI n1 W W' := ⟨hs, fun k cs _ hk => h k cs hk⟩
theorem pEach_take {σ : Type} (f : σ → Int → Int → σ × Int) (P : σ → Prop) : ∀ (la lb : List Int) (s : σ), P s → (∀ s x y, P s → x ∈ la → y ∈ lb → P (f s x y).1) → P (pEach f s la lb).1
  | [], _, s, h, _ => h
  | _ :: _, [], s, h, _ => h
  | x :: la, y :: lb, s, h, hf => pEach_take f P la lb (f s x y).1 (hf s x y h (by simp) (by simp)) (fun s' x' y' hs hx hy => hf s' x' y' hs (by simp [hx]) (by simp [hy]))
/-- What each with an operation does to the gates. -/
theorem pEach_ok {n q : Nat} {pf : List Gt → Int → Int → List Gt × Int} (gs0 : List Gt) (hpf : ∀ gs x y, gs0 <+: gs → LitOk n gs x → LitOk n gs y → n + gs.length + q ≤ 1000000 → gs <+: (pf gs x y).1 ∧ (pf gs x y).1.length ≤ gs.length + q ∧ LitOk n (pf gs x y).1 (pf gs x y).2) :
    ∀ (la lb : List Int) (gs : List Gt), gs0 <+: gs → la.length = lb.length → (∀ x ∈ la, LitOk n gs x) → (∀ y ∈ lb, LitOk n gs y) → n + gs.length + q * la.length ≤ 1000000 →
      gs <+: (pEach pf gs la lb).1 ∧ (pEach pf gs la lb).1.length ≤ gs.length + q * la.length ∧ (pEach pf gs la lb).2.length = la.length ∧ ∀ z ∈ (pEach pf gs la lb).2, LitOk n (pEach pf gs la lb).1 z
  | [], lb, gs, _, _, _, _, _ => ⟨List.prefix_refl _, by simp [pEach], rfl, by simp [pEach]⟩
  | _ :: _, [], gs, _, h, _, _, _ => by simp at h
  | x :: la, y :: lb, gs, h0, hl, ha, hb, hs => by
    simp only [List.length_cons, Nat.mul_add, Nat.mul_one] at hs hl
    obtain ⟨h1, h2, h3⟩ := hpf gs x y h0 (ha x (by simp)) (hb y (by simp)) q29_
    obtain ⟨k1, k2, k3, k4⟩ := pEach_ok gs0 hpf la lb (pf gs x y).1 (h0.trans h1) q29_ (fun z hz => (ha z (by simp [hz])).mono h1) (fun z hz => (hb z (by simp [hz])).mono h1) q29_
    refine ⟨h1.trans k1, ?_, ?_, ?_⟩
    · simp only [pEach, List.length_cons, Nat.mul_add, Nat.mul_one]; omega
    · simp only [pEach, List.length_cons]; omega
    · intro z hz
      simp only [pEach, List.mem_cons] at hz ⊢
      rcases hz with rfl | hz
      · exact h3.mono k1
      · exact k4 z hz
theorem rd_mem {l : List Int} {i : Nat} (h : i < l.length) : rd l (i : Int) ∈ l := by
  have : rd l (i : Int) = l[i] := by simp [rd, List.getD_eq_getElem?_getD, h]
  rw [this]
  exact List.getElem_mem h
set_option maxHeartbeats 400000 in
theorem eachM_calls (nIn base g bs ba q : Nat) (vI vO : Value) (pf : List Gt → Int → Int → List Gt × Int) (gs0 : List Gt)
    (hpf : ∀ gs x y, gs0 <+: gs → LitOk nIn gs x → LitOk nIn gs y → nIn + gs.length + q ≤ 1000000 → gs <+: (pf gs x y).1 ∧ (pf gs x y).1.length ≤ gs.length + q ∧ LitOk nIn (pf gs x y).1 (pf gs x y).2)
    (fid : Nat) (first cap : Array Value) (eg : ∀ (w : World) args, (callFunc fid args).run Tryd.prog w = .ok (.enter fid args) w) (W : World) (A B : Option Addr) (c d : Nat) (la lb : List Int)
    (hlen : la.length = lb.length) (hbound : la.length ≤ 1000000) (hM : MK nIn W base g vI vO bs ba gs0) (hbW : base ≤ W.heap.size) (hra : RI W (.slice A la.length c) la) (hrb : RI W (.slice B lb.length d) lb)
    (oka : ∀ x ∈ la, LitOk nIn gs0 x) (okb : ∀ x ∈ lb, LitOk nIn gs0 x) (hsz : nIn + gs0.length + q * la.length ≤ 1000000)
    (hf : ∀ gs x y W', MK nIn W' base g vI vO bs ba gs → base ≤ W'.heap.size → MKeep base bs W W' → gs0 <+: gs → LitOk nIn gs x → LitOk nIn gs y → nIn + gs.length + q ≤ 1000000 →
      Calls Tryd.prog fid (first ++ #[.int .i64 x, .int .i64 y] ++ cap) W' fun e W2 => e = .returned (.int .i64 (pf gs x y).2) ∧ MK nIn W2 base g vI vO bs ba (pf gs x y).1 ∧ MKeep base bs W' W2) :
    Calls Tryd.prog 48 #[.slice A la.length c, .slice B lb.length d, .func (.func fid) first cap] W fun e w' => ∃ v, e = .returned v ∧ MK nIn w' base g vI vO bs ba (pEach pf gs0 la lb).1 ∧ MKeep base bs W w' ∧ RI w' v (pEach pf gs0 la lb).2 := by
  refine (each_calls (fun gs W' => MK nIn W' base g vI vO bs ba gs ∧ MKeep base bs W W' ∧ base ≤ W'.heap.size) pf fid first cap (fun args w => eg w args) W.heap.size W rfl A B c d la lb hlen hbound gs0 ?_ ?_ ?_ ⟨hM, MKeep.refl _ _ _, hbW⟩).mono ?_
  · rintro gs W' ⟨h1, h2, _⟩
    have k := KI.of_keep h2 hM.noCells
    obtain ⟨A', c', e1, _, _, r1⟩ := (hra.keep k).read
    obtain ⟨B', d', e2, _, _, r2⟩ := (hrb.keep k).read
    cases e1
    cases e2
    exact ⟨r1, r2⟩
  · rintro gs W1 W2 row ⟨h1, h2, h3⟩ hg hr
    exact ⟨h1.grownI hg (fun k e => (hr k e).2), h2.grownNew rfl hbW hg (fun k e => (hr k e).1), Nat.le_trans h3 hg.size⟩
  · rintro i hi gs W' rfl ⟨h1, h2, h3⟩ hn
    have hib : i < lb.length := by omega
    have e1 : (la.take i).length = i := by rw [List.length_take]; omega
    obtain ⟨k1, k2, k3, k4⟩ := pEach_ok gs0 hpf (la.take i) (lb.take i) gs0 (List.prefix_refl _) (by rw [List.length_take, List.length_take]; omega) (fun x hx => oka x (List.mem_of_mem_take hx)) (fun x hx => okb x (List.mem_of_mem_take hx)) (by rw [e1]; have := Nat.mul_le_mul_left q (Nat.le_of_lt hi); omega)
    have hq : nIn + (pEach pf gs0 (la.take i) (lb.take i)).1.length + q ≤ 1000000 := by
      rw [e1] at k2
      have := Nat.mul_le_mul_left q hi
      rw [Nat.succ_eq_add_one, Nat.mul_add] at this
      omega
    refine (hf _ _ _ W' h1 h3 h2 k1 ((oka _ (rd_mem hi)).mono k1) ((okb _ (rd_mem hib)).mono k1) hq).mono ?_
    rintro e W2 ⟨rfl, m1, m2⟩
    exact ⟨rfl, ⟨m1, h2.trans m2, Nat.le_trans h3 m2.below.size⟩, (h1.ki m2).keepI m2.below.size⟩
  · rintro e w' ⟨v, rfl, ⟨h1, h2, h3⟩, hR, _⟩
    exact ⟨v, rfl, h1, h2, RI.of_R hR (by have := pEach_len pf gs0 la lb; omega)⟩
end Go.Proofs.YtjopdafckhkmmaaDoor.MBS
