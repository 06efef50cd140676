/- term.Vars by hand: the variables, sorted. -/
import Derived.Test.YtjopdafckhkmmaaDoorCBSatHBSTermPure
import Derived.Test.YtjopdafckhkmmaaDoorCBSatHBSTermSortN
import Derived.Sort.MapsRangeIn
import Derived.LoopN
set_option linter.unusedVariables false
set_option linter.unusedSimpArgs false
namespace Go.Proofs.YtjopdafckhkmmaaDoor.MBS
open Go.Proofs.YtjopdafckhkmmaaDoor.Zed Go.RowKit Go.Proofs.YtjopdafckhkmmaaDoorW.PrintWords Go.Proofs.YtjopdafckhkmmaaDoorW.PrintLast Go.Proofs.YtjopdafckhkmmaaDoorW.PrintMore
open Go.Maps (has IsMap Keyed)
attribute [local go_sem] Oper.semAt_some
/-- The map's entries that have come. -/
structure VE (D : DataW Unit) (left : Lit → Bool) (es : List (ByteArray × Int)) : Prop where
  nodup : (es.map (·.1)).Nodup
  mem : ∀ s, s ∈ es.map (·.1) ↔ has D (kyS s) = true ∧ left (kyS s) = false
  at_ : ∀ p ∈ es, ∀ z, D.atKey (kyS p.1) z = .lit (.int .i64 p.2)
theorem VE.nil (D : DataW Unit) : VE D (has D) [] := ⟨by simp, fun s => by simp, by simp⟩
theorem VE.step {D : DataW Unit} {left : Lit → Bool} {es : List (ByteArray × Int)} (h : VE D left es) (s : ByteArray) (c : Int) (hl : left (kyS s) = true) (hat : ∀ z, D.atKey (kyS s) z = .lit (.int .i64 c)) :
    VE D (fun z => left z && !z.sameKey (kyS s)) (es ++ [(s, c)]) :=
  ⟨by
    rw [List.map_append, List.nodup_append]
    refine ⟨h.nodup, by simp, ?_⟩
    intro a ha b hb e
    obtain rfl : b = s := List.mem_singleton.1 (show b ∈ [s] from hb)
    have := ((h.mem a).1 ha).2
    rw [e, hl] at this
    exact absurd this q33_, fun t => by
    have hd := Maps.has_true_of_atKey hat
    by_cases e : t = s
    · subst e
      have hs : (kyS t).sameKey (kyS t) = true := WideAt.sameKey_self (show WideAt.IsKeyLit (kyS t) from trivial)
      simp only [hs, Bool.not_true, Bool.and_false, hd, and_self, iff_true]
      simp
    · have hs : (kyS t).sameKey (kyS s) = false := Maps.sameKey_ne (fun h => e (kyS_inj h))
      have h1 : t ∈ (es ++ [(s, c)]).map (·.1) ↔ t ∈ es.map (·.1) := by
        rw [List.map_append, List.mem_append]
        simp [e]
      simp only [hs, Bool.not_false, Bool.and_true]
      rw [h1, h.mem t], fun p hp z => by
    rcases List.mem_append.1 hp with hp | hp
    · exact h.at_ p hp z
    · obtain rfl := List.mem_singleton.1 hp
      exact hat z⟩
theorem owns_size {H : Type} {w : World} {P : Program} {k : TypeId} {R : Value → Option (DataW H × List MemPlace)} {b n : Nat} {D : DataW H} (h : w.ownsMap P k R b n D) : Maps.size D ≤ n := by
  obtain ⟨es, clock, _, _, hs, rfl⟩ := h
  rw [Maps.size_eq, length_sorted, List.length_map, Array.length_toList]
  exact hs
/-- What the entries are, in the nodes' words. -/
structure VL (l : List Tm) (es : List (ByteArray × Int)) : Prop where
  nodup : (es.map (·.1)).Nodup
  mem : ∀ s c, (s, c) ∈ es ↔ ∃ x ∈ l, x.f0 = 2 ∧ x.f3 = s ∧ x.f1 = c
theorem VE.done {l : List Tm} {D : DataW Unit} {left : Lit → Bool} {es : List (ByteArray × Int)} (h : VE D left es) (hl : ∀ k, left k = false) (hv : VM l D) : VL l es :=
  ⟨h.nodup, fun s c => by
    constructor
    · intro hm
      have h1 := ((h.mem s).1 (List.mem_map.2 ⟨_, hm, rfl⟩)).1
      obtain ⟨x, hx, hk, rfl⟩ := (hv.mem s).1 h1
      refine ⟨x, hx, hk, rfl, ?_⟩
      have h2 := h.at_ _ hm .nil
      have h3 := hv.at_ x hx hk .nil
      rw [h2] at h3
      injection h3 with h3
      injection h3 with _ h3
      exact h3.symm
    · rintro ⟨x, hx, hk, rfl, rfl⟩
      have h1 := (hv.mem x.f3).2 ⟨x, hx, hk, rfl⟩
      obtain ⟨⟨s, c⟩, hm, hs⟩ := List.mem_map.1 ((h.mem x.f3).2 ⟨h1, hl _⟩)
      obtain rfl : s = x.f3 := hs
      have h2 := h.at_ _ hm .nil
      have h3 := hv.at_ x hx hk .nil
      rw [h2] at h3
      injection h3 with h3
      injection h3 with _ h3
      obtain rfl : c = x.f1 := h3
      exact hm⟩
theorem cb_total : ∀ a b : List UInt8, Lib.compareBytes a b < 0 ∨ a = b ∨ Lib.compareBytes b a < 0
  | [], [] => .inr (.inl rfl)
  | [], _ :: _ => .inl (by simp [Lib.compareBytes])
  | _ :: _, [] => .inr (.inr (by simp [Lib.compareBytes]))
  | x :: a, y :: b => by
    unfold Lib.compareBytes
    by_cases h1 : x < y
    · exact .inl (by rw [if_pos h1]; decide)
    · by_cases h2 : y < x
      · exact .inr (.inr (by rw [if_pos h2]; decide))
      · have e : x = y := UInt8.le_antisymm (UInt8.not_lt.1 h2) (UInt8.not_lt.1 h1)
        subst e
        rw [if_neg h1, if_neg h1]
        rcases cb_total a b with h | h | h
        · exact .inl h
        · exact .inr (.inl (by rw [h]))
        · exact .inr (.inr (by rw [if_neg h1, if_neg h1]; exact h))
/-- An entry as a binding. -/
def toB (p : ByteArray × Int) : S40 := .mk p.1 p.2 0
/-- What Vars hands back: the variables of the nodes, each once, by their names. -/
structure VS (l : List Tm) (vs : List Bg) : Prop where
  bits : ∀ b ∈ vs, b.f2 = 0
  mem : ∀ s c, (∃ b ∈ vs, b.f0 = s ∧ b.f1 = c) ↔ ∃ x ∈ l, x.f0 = 2 ∧ x.f3 = s ∧ x.f1 = c
  sorted : vs.Pairwise (fun a b => cfB a b < 0)
theorem VL.sorted {l : List Tm} {es : List (ByteArray × Int)} {vs : List Bg} (h : VL l es) (hp : vs.Perm (es.map toB)) (hs : vs.Pairwise (fun a b => 0 ≤ cfB b a)) : VS l vs :=
  ⟨fun b hb => by
    obtain ⟨p, _, rfl⟩ := List.mem_map.1 (hp.mem_iff.1 hb)
    rfl, fun s c => by
    rw [← h.mem s c]
    constructor
    · rintro ⟨b, hb, rfl, rfl⟩
      obtain ⟨p, hq, rfl⟩ := List.mem_map.1 (hp.mem_iff.1 hb)
      exact hq
    · intro hm
      exact ⟨toB (s, c), hp.mem_iff.2 (List.mem_map.2 ⟨_, hm, rfl⟩), rfl, rfl⟩, by
    have h1 : (vs.map (·.f0)).Nodup := by
      have h2 : (vs.map (·.f0)).Perm ((es.map toB).map (·.f0)) := hp.map _
      rw [h2.nodup_iff, List.map_map]
      exact h.nodup
    have h3 : vs.Pairwise (fun a b => a.f0 ≠ b.f0) := List.pairwise_map.1 h1
    refine List.Pairwise.imp₂ ?_ h3 hs
    intro a b hne hn
    rcases cb_total a.f0.data.toList b.f0.data.toList with h | h | h
    · exact h
    · exact absurd (kyS_inj (congrArg Lit.string h)) hne
    · exact absurd (show cfB b a < 0 from h) q29_⟩
theorem infoB : (Tryd.prog.info? 40).map (fun i => (i.zero, i.size, i.bytes)) = some (some (.agg #[.string ⟨#[]⟩, .int .i64 0, .int .u64 0]), 3, 32) := by kernel_rfl
section
variable {H : Type} {P : Program} (w : World) {ops : Array Oper} {rest : List Oper} {o : Oper} {a : Act} {Q : Exit → Act → World → Prop}
theorem wpList_next_ranges_si (hg : o.guard = none) (it : Operand) (hop : o.op = Op.next it false) (k e : TypeId) (qe : IntKind) (K : Keyed P k) (hk : P.underlying k = some .string) (he : P.underlying e = some (.int qe))
    (b r n : Nat) (D : DataW H) (left : Lit → Bool) (cnt : Nat) (hit : a.eval it = .pointer (some ⟨r, 0, none⟩)) (h : w.ranges P k (plainElem P e) b r n D left cnt)
    (hDone : cnt = 0 → (∀ kl, left kl = false) → wpList P ops Q rest (a.put o.dst (.tuple #[.bool false])) w)
    (hMore : ∀ (x : ByteArray) (c : Int) (w' : World) (cnt' : Nat), left (kyS x) = true → (∀ zd, D.atKey (kyS x) zd = .lit (.int qe c)) → w'.ranges P k (plainElem P e) b r n D (fun z => left z && !z.sameKey (kyS x)) cnt' → cnt' < cnt →
      w.grownBy w' (some r) → w'.heap.size = w.heap.size → (Instr.entry (.pointer (some ⟨r, 0, none⟩))).run P w' = .ok (.tuple #[.string x, .int qe c]) w' → wpList P ops Q rest (a.put o.dst (.tuple #[.bool true, .string x, .int qe c])) w') :
    wpList P ops Q (o :: rest) a w :=
  wpList_next_ranges w hg it hop k K (plainElem P e) Value.string (Value.int qe) (fun key kl hkey => by obtain ⟨x, rfl, _⟩ := WideMaps.string_of_keyOf hk hkey; exact ⟨x, rfl⟩) (fun v y hv => by obtain ⟨c, rfl, _⟩ := plainElem_int_inv he hv; exact ⟨c, rfl⟩)
    b r n D left cnt hit h hDone (fun x c kl y w' cnt' hkey hlk hv hat hrg hlt hgr hsz hen => by
      obtain ⟨x', ex, rfl, hwx⟩ := WideMaps.string_of_keyOf hk hkey
      cases ex
      obtain ⟨c', ec, rfl, hwc⟩ := plainElem_int_inv he hv
      cases ec
      exact hMore x c w' cnt' hlk hat hrg hlt hgr hsz hen)
end
theorem range_iter {H : Type} {w : World} {P : Program} {k b r n cnt : Nat} {R : Value → Option (DataW H × List MemPlace)} {D : DataW H} {left : Lit → Bool} (h : w.ranges P k R b r n D left cnt) : ∃ s x c, w.heap[r]? = some (.mapIter (some b) s x c) := by
  obtain ⟨_, _, s, x, c, _, _, _, _, h, _⟩ := h
  exact ⟨s, x, c, h⟩
theorem owns_map {H : Type} {w : World} {P : Program} {k b n : Nat} {R : Value → Option (DataW H × List MemPlace)} {D : DataW H} (h : w.ownsMap P k R b n D) : ∃ es c, w.heap[b]? = some (.map es c) := by
  obtain ⟨es, c, h, _⟩ := h
  exact ⟨es, c, h⟩
/-- A row beside a block that is no cells. -/
theorem R_beside {α : Type} {d : Kd α} {e base : Nat} {ok : Nat → Prop} {w w1 : World} {v : Value} {xs : List α} {r : Nat} (h : d.R e w base ok v xs) (hg : w.grownBy w1 (some r)) (hr : ∀ o, w.heap[r]? = some o → o.isCells = false) : d.R e w1 base (fun _ => True) v xs :=
  Kd.R_mono (Kd.R_move (Kd.R_bound h) (fun k hk => by
    obtain ⟨_, _, hlt, q, _, cells, hc⟩ := hk
    refine hg.block k hlt (fun e => ?_)
    cases e
    have := hr _ hc
    cases this)) (fun _ _ => trivial)
theorem own_not {α : Type} {d : Kd α} {e base : Nat} {ok : Nat → Prop} {w : World} {v : Value} {xs : List α} {r : Nat} (h : d.R e w base ok v xs) (hr : ∀ o, w.heap[r]? = some o → o.isCells = false) : some r ≠ v.ownBlock := fun e => by
  obtain ⟨inner, ho⟩ := Kd.R_own h
  obtain ⟨cells, hc⟩ := own_typed ho r e.symm
  have := hr _ hc
  cases this
set_option maxRecDepth 100000 in
set_option maxHeartbeats 2000000 in
theorem Vars_calls (k : Nat) (x : Tm) (cs : List Value) (d : Int) (w : World) (hK : kT.K w x cs) (hT : Tab w) (hn : (nd x).length ≤ 1000000)
    (hd : term_Depth.f k x.f0 x.f1 x.f2 x.f3 x.f4 x.f5 = some d) (hnd : ∀ y ∈ nd x, NOk k y) :
    Calls Tryd.prog 9 #[.agg cs.toArray] w fun e w' => Below w.heap.size w w' ∧
      ((chkR k x d ≠ 0 ∧ e = .returned (.tuple #[.slice none 0 0, .int .i64 (chkR k x d)])) ∨ (chkR k x d = 0 ∧ ∃ (v : Value) (vs : List Bg), e = .returned (.tuple #[v, .int .i64 0]) ∧ VS (nd x) vs ∧ Kd.R k40 40 w' w.heap.size (fun _ => True) v vs)) := by
  have HK := Aside0.mk hK
  have HCHK : ∀ W : World, Below w.heap.size w W → Calls Tryd.prog 28 #[.agg cs.toArray] W fun e w' => e = .returned (.int .i64 (chkR k x d)) ∧ Below W.heap.size W w' := fun W hW =>
    Check_calls k x cs d W (kT.K_below hW hK) (hT.below hW) hn hd hnd
  have HVAR : chkR k x d = 0 → ∀ W : World, Below w.heap.size w W → Calls Tryd.prog 29 #[.agg cs.toArray] W fun e w' => Below W.heap.size W w' ∧ ∃ b, W.heap.size ≤ b ∧ e = .returned (.tuple #[.map (some b), .bool true]) ∧ MapSI w' b (nd x) := fun hc W hW => by
    unfold chkR at hc
    split at hc
    · omega
    · split at hc
      · rename_i hall
        split at hc
        · rename_i hvok
          refine (variables_calls x cs W (kT.K_below hW hK) hn (fun y hy h2 => ?_)).mono ?_
          · have h1 := List.all_eq_true.1 hall y hy
            obtain ⟨_, b, hb⟩ := hnd y hy
            rw [nodeB, hb] at h1
            obtain rfl : b = true := h1
            exact nodeF_wf hb h2
          · rintro e w' ⟨hb, ⟨b, h1, h2, _, h3⟩ | ⟨_, h2⟩⟩
            · exact ⟨hb, b, h1, h2, h3⟩
            · exact absurd hvok h2
        · omega
      · omega
  obtain ⟨A5, c5, rfl, l5, g5⟩ := k25_open hK
  have hu25 := Tryd.underlying25
  replace HCHK := Aside0.mk HCHK
  replace HVAR := Aside0.mk HVAR
  clear g5 hK hT hd hnd
  go_enter Tryd.func9, Tryd.ntmps9
  obtain ⟨ch, hch⟩ : ∃ c, c = chkR k x d := ⟨_, rfl⟩
  rw [← hch] at HCHK HVAR
  have HCH := Aside0.mk hch
  clear hch
  have bW1 : Below w.heap.size w (w.alloc (.cells #[.int .u8 x.f0, .int .i64 x.f1, .int .u64 x.f2, .string x.f3, .int .i64 x.f4, .slice A5 x.f5.length c5] 25)) := below_alloc (Below.refl _ _) _
  have bx1 := blk_new w (.cells #[.int .u8 x.f0, .int .i64 x.f1, .int .u64 x.f2, .string x.f3, .int .i64 x.f4, .slice A5 x.f5.length c5] 25)
  have HW1 := Aside0.mk bW1
  have HX1 := Aside0.mk bx1
  clear bW1 bx1
  by_cases hc : ch = 0
  · have hcb : (ch != 0) = false := by simp [hc]
    have HV2 := Aside0.mk (HVAR.out hc)
    clear HVAR
    have HC := Aside0.mk hc
    clear hc
    go_wp2_with (first | (go_at_call 28; refine (HCHK.out _ HW1.out).mono ?_; rintro e w2 ⟨rfl, hb2⟩; have bx2 := blk_below HX1.out hb2; have q0 := (blk_cell bx2 0).trans (show _ = some (Value.int .u8 x.f0) from rfl); have q1 := (blk_cell bx2 1).trans (show _ = some (Value.int .i64 x.f1) from rfl); have q2 := (blk_cell bx2 2).trans (show _ = some (Value.int .u64 x.f2) from rfl); have q3 := (blk_cell bx2 3).trans (show _ = some (Value.string x.f3) from rfl); have q4 := (blk_cell bx2 4).trans (show _ = some (Value.int .i64 x.f4) from rfl); have q5 := (blk_cell bx2 5).trans (show _ = some (Value.slice A5 x.f5.length c5) from rfl); have HB2 := Aside0.mk (below_step HW1.out hb2); clear hb2 bx2) | (go_at_call 29; refine (HV2.out _ HB2.out).mono ?_; rintro e w3 ⟨hb3, b, hbl, rfl, hmap⟩; obtain ⟨D, hown, hvm⟩ := hmap; have HB3 := Aside0.mk (below_step HB2.out hb3); have HM := Aside0.mk hown; have HVM := Aside0.mk hvm; have HBL := Aside0.mk hbl; clear hb3 hown hvm hbl q0 q1 q2 q3 q4 q5) | (at_range; refine wpList_range_own _ rfl _ 74 rfl 9 3 (Maps.string_keyed Tryd.underlying9) Tryd.underlying74 _ b _ D rfl HM.out ?_; intro w4 hrg hg4 hs4; have HRG := Aside0.mk hrg; have HG4 := Aside0.mk hg4; have HS4 := Aside0.mk hs4; clear hrg hg4 hs4))
    go_frame
    obtain ⟨rr, hrr⟩ : ∃ r, r = w3.heap.size := ⟨_, rfl⟩
    rw [← hrr] at HRG ⊢
    have HB4 := Aside0.mk (HB3.out.grown HG4.out HB3.out.size (fun j e => by cases e))
    have HRR := Aside0.mk (show w.heap.size ≤ rr by have := HB3.out.size; omega)
    have HBLE := Aside0.mk (show w.heap.size ≤ b by have := HB2.out.size; have := HBL.out; omega)
    clear hrr
    go_loopw [7] (fun v7 wr => ∃ (left : Lit → Bool) (cnt : Nat) (es : List (ByteArray × Int)), Aside0 (wr.ranges Tryd.prog 9 (plainElem Tryd.prog 3) b rr (nd x).length D left cnt) ∧ Aside0 (VE D left es) ∧ Aside0 (es.length + cnt ≤ 1000000) ∧ Aside0 (k40.R 40 wr w.heap.size (fun _ => True) v7 (es.map toB)) ∧ Aside0 (Below w.heap.size w wr)) (fun v7 wr => wr.rangeLeft b rr)
    case atStart => exact ⟨_, _, [], HRG, ⟨VE.nil D⟩, ⟨by have := owns_size HM.out; simp; omega⟩, ⟨Kd.R_nil _ _ _ _ _⟩, HB4⟩
    case round =>
      obtain ⟨left, cnt, es, HRG1, HVE, HCN, HR, HB5⟩ := hrel
      go_wp2_with (first | (at_next; refine wpList_next_ranges_si _ rfl _ rfl 9 3 .i64 (Maps.string_keyed Tryd.underlying9) Tryd.underlying9 Tryd.underlying3 b rr (nd x).length _ _ _ rfl HRG1.out ?_ ?_))
      · intro hc0 hl0
        have HL0 := Aside0.mk hl0
        clear hl0
        have hsort := Aside0.mk (sort_calls wr w.heap.size u7 (es.map toB) HR.out (by have := HCN.out; rw [List.length_map]; omega))
        go_wp2_with (go_at_call 30; refine hsort.out.mono ?_; rintro e w6 ⟨rfl, ys, hperm, hpw, hR6, hg6⟩; have HPM := Aside0.mk hperm; have HPW := Aside0.mk hpw; have HR6 := Aside0.mk hR6; have HG6 := Aside0.mk hg6; clear hperm hpw hR6 hg6)
        refine bodyPost_ret (results_tmp2 (t := 2) (u := 3) q28_ _ _ _) rfl ?_
        refine ⟨HB5.out.grown HG6.out HB5.out.size (fun j e => ?_), .inr ⟨by rw [← HCH.out, HC.out], u7, ys, rfl, (HVE.out.done HL0.out HVM.out).sorted HPM.out HPW.out, HR6.out⟩⟩
        obtain ⟨inner, ho⟩ := Kd.R_own HR.out
        exact own_base ho j e
      · intro s c w5 cnt5 hlx hat hrg5 hlt hg5 hs5 hen
        have hri := range_iter HRG1.out
        have HR5 := Aside0.mk (R_beside HR.out hg5 (fun o ho => by obtain ⟨_, _, _, h⟩ := hri; rw [h] at ho; cases ho; rfl))
        have HB6 := Aside0.mk (HB5.out.grown hg5 HB5.out.size (fun j e => by cases e; exact HRR.out))
        have HVE5 := Aside0.mk (HVE.out.step s c hlx hat)
        have HRG5 := Aside0.mk hrg5
        have HLT := Aside0.mk hlt
        have n1 := Aside0.mk (own_not HR5.out (r := rr) (fun o ho => by obtain ⟨_, _, _, h⟩ := range_iter hrg5; rw [h] at ho; cases ho; rfl))
        have n2 := Aside0.mk (own_not HR5.out (r := b) (fun o ho => by obtain ⟨_, _, h⟩ := owns_map hrg5.owns; rw [h] at ho; cases ho; rfl))
        have HCN5 := Aside0.mk (show (es.map toB).length + 1 ≤ 1000000 by have := HCN.out; rw [List.length_map]; omega)
        have HLE := Aside0.mk (show w.heap.size ≤ w5.heap.size from HB6.out.size)
        clear hri hlx hat hrg5 hlt hg5 hs5
        go_wp2_with (first | ((with_reducible refine gate_builtin (b := .append) (xs := #[.tmp 27, .tmp 31]) rfl ?_); at_builtin; go_loud (refine Kd.R_append k40 (w0 := w) w.heap.size rfl (.tmp 27) (.tmp 31) 36 40 (.agg #[.string ⟨#[]⟩, .int .i64 0, .int .u64 0]) 32 rfl Tryd.underlying36 infoB rfl q33_ q33_ u7 (es.map toB) (toB (s, c)) [.string s, .int .i64 c, .int .u64 0] (fun _ => True) (fun _ => False) rfl rfl (k40_mkM _ _ _ _) (fun _ hk => hk.elim) (fun _ _ => trivial) HR5.out HB6.out HLE.out (by have := HCN5.out; omega) ?_); intro v7 w7 ho7 hb7 hg7 hat7; have HR7 := Aside0.mk ho7; have HB7 := Aside0.mk hb7; have HG7 := Aside0.mk hg7; clear ho7 hb7 hg7 hat7))
        have hrg7 := HRG5.out.kept HG7.out n2.out n1.out
        refine ⟨⟨_, cnt5, es ++ [(s, c)], ⟨hrg7⟩, HVE5, ⟨by have := HCN.out; have := HLT.out; rw [List.length_append]; show es.length + 1 + cnt5 ≤ 1000000; omega⟩, ⟨by rw [List.map_append]; exact HR7.out⟩, HB7⟩, ?_⟩
        rw [hrg7.left_eq, HRG1.out.left_eq]
        exact HLT.out
  · have hcb : (ch != 0) = true := by simp [hc]
    have HC := Aside0.mk hc
    clear HVAR hc
    go_wp2_with (first | (go_at_call 28; refine (HCHK.out _ HW1.out).mono ?_; rintro e w2 ⟨rfl, hb2⟩; have HB2 := Aside0.mk (below_step HW1.out hb2); clear hb2))
    refine bodyPost_ret (results_tmp2 (t := 2) (u := 3) q28_ _ _ _) rfl ?_
    exact ⟨HB2.out, .inl ⟨by rw [← HCH.out]; exact HC.out, by rw [← HCH.out]; rfl⟩⟩
end Go.Proofs.YtjopdafckhkmmaaDoor.MBS
