/- Rows of cells of one's own, seen as flat lists of values; slices.Clone, Delete (and Insert) at []api.Cell, by hand. No condition. -/
import Derived.Test.YtpogkinegkfokaaCISMInterpretStoresx0
import Derived.Outline
import Derived.Lib.Overlaps
import Derived.Laws.CopyRow
import Derived.Laws.Cover3
set_option linter.unusedVariables false
set_option linter.unusedSimpArgs false
namespace Go.Proofs.Ytpogkinegkfokaa.MInterpretStores
open Go.Proofs.Ytpogkinegkfokaa.Zed Go.RowKit Go.Proofs.YtpogkinegkfokaaW.PrintWords Go.Proofs.YtpogkinegkfokaaW.PrintLast Go.Proofs.YtpogkinegkfokaaW.PrintMore
def fl : List S36 → List Value
  | [] => []
  | x :: r => .int .u64 x.f0 :: .int .u8 x.f1 :: fl r
theorem fl_length : ∀ xs : List S36, (fl xs).length = xs.length * 2
  | [] => rfl
  | x :: r => by simp only [fl, List.length_cons, fl_length r]; omega
theorem fl_append : ∀ xs ys : List S36, fl (xs ++ ys) = fl xs ++ fl ys
  | [], _ => rfl
  | x :: r, ys => by simp only [fl, List.cons_append, fl_append r ys]
theorem fl_take : ∀ (xs : List S36) (i : Nat), (fl xs).take (i * 2) = fl (xs.take i)
  | [], i => by simp [fl]
  | x :: r, 0 => by simp [fl]
  | x :: r, i + 1 => by
    rw [show (i + 1) * 2 = i * 2 + 1 + 1 by omega]
    simp only [fl, List.take_succ_cons, fl_take r i]
theorem fl_drop : ∀ (xs : List S36) (i : Nat), (fl xs).drop (i * 2) = fl (xs.drop i)
  | [], i => by simp [fl]
  | x :: r, 0 => by simp [fl]
  | x :: r, i + 1 => by
    rw [show (i + 1) * 2 = i * 2 + 1 + 1 by omega]
    simp only [fl, List.drop_succ_cons, fl_drop r i]
theorem fl_one : ∀ (xs : List S36), ∀ u ∈ fl xs, u.oneCell' = true
  | [], u, h => by cases h
  | x :: r, u, h => by
    simp only [fl, List.mem_cons] at h
    rcases h with rfl | rfl | h
    · rfl
    · rfl
    · exact fl_one r u h
theorem fl_reps {R : S36 → List Value → Prop} (hR : ∀ x, R x [.int .u64 x.f0, .int .u8 x.f1]) : ∀ xs : List S36, Reps R 2 xs (fl xs)
  | [] => Reps.none _ _
  | x :: r => by
    have h := Kd.reps_append (R := R) (size := 2) (ps := [x]) (cs := [.int .u64 x.f0, .int .u8 x.f1]) ⟨rfl, fun j p hj => by
      cases j with
      | zero => simp at hj; subst hj; exact hR _
      | succ j => simp at hj⟩ (fl_reps hR r)
    exact h
theorem reps_fl {R : S36 → List Value → Prop} (hR : ∀ x cs, R x cs → cs = [.int .u64 x.f0, .int .u8 x.f1]) : ∀ (xs : List S36) (cs : List Value), Reps R 2 xs cs → cs = fl xs
  | [], cs, h => List.eq_nil_of_length_eq_zero h.1
  | x :: r, cs, h => by
    have h1 := hR _ _ (h.2 0 x rfl)
    have h2 := reps_fl hR r _ (Kd.reps_drop (m := 1) h)
    simp only [Nat.zero_mul, List.drop_zero, Nat.one_mul] at h1 h2
    rw [← List.take_append_drop 2 cs, h1, h2]
    rfl
theorem R_open {w : World} {base : Nat} {ok : Nat → Prop} {g n c : Nat} {xs : List S36} (h : Kd.R k36 36 w base ok (.slice (some ⟨g, 0, none⟩) n c) xs) :
    xs.length = n ∧ n ≤ c ∧ c ≤ maxLen ∧ base ≤ g ∧ ok g ∧ ∃ cur, w.heap[g]? = some (.cells cur 36 (0, 0)) ∧ cur.size = c * 2 ∧ cur.toList.take (n * 2) = fl xs := by
  obtain rfl := (Kd.R_reads' h).1
  obtain ⟨h0, inner, ho, hr⟩ := h
  have hi := reps_fl (fun x cs hx => k36_openM hx) xs inner hr
  rcases ho.2 with ⟨hv, _⟩ | ⟨g', cap, cur, hv, hb, hg, hn, hm, hs, ht⟩
  · cases hv
  · injection hv with h1 h2 h3
    injection h1 with h1
    injection h1 with h1
    subst h1; subst h3
    exact ⟨rfl, hn, hm, hb, h0 _ (by simp [Value.ownBlock]), cur, hg, hs, by rw [← hi]; exact ht⟩
theorem R_close {w : World} {base : Nat} {ok : Nat → Prop} {g n c : Nat} {xs : List S36} {cur : Array Value} (hn : xs.length = n) (hnc : n ≤ c) (hcm : c ≤ maxLen) (hb : base ≤ g) (hok : ok g)
    (hg : w.heap[g]? = some (.cells cur 36 (0, 0))) (hs : cur.size = c * 2) (ht : cur.toList.take (n * 2) = fl xs) : Kd.R k36 36 w base ok (.slice (some ⟨g, 0, none⟩) n c) xs := by
  subst hn
  exact ⟨fun k hk => by simp [Value.ownBlock] at hk; subst hk; exact hok, fl xs, ⟨fl_length xs, .inr ⟨g, c, cur, rfl, hb, hg, hnc, hcm, hs, ht⟩⟩, fl_reps (fun x => k36_mkM _ _ _ x) xs⟩

section
variable {P : Program}
/-- copy between rows of any size of element; the cells of the source are known one by one. -/
theorem run_copy_size (w : World) (t ty elem : TypeId) (i : TypeInfo) (hu : P.underlying t = some (.slice elem)) (hi : P.info? elem = some i) (g o dLen dCap : Nat) (a : Addr) (sLen sCap : Nat) (cur : Array Value) (tt : TypeId) (cs : List Value)
    (hg : w.heap[g]? = some (.cells cur tt (0, 0))) (hn : cs.length = Nat.min sLen dLen * i.size)
    (hsrc : ∀ j v, cs[j]? = some v → w.cell? (a.add j) = some v) (hfit : o + cs.length ≤ cur.size) (h1 : ∀ v ∈ cs, v.oneCell' = true) :
    (Builtin.copy_ #[t, t] ty #[.slice (some ⟨g, o, none⟩) dLen dCap, .slice (some a) sLen sCap]).run P w =
      .ok (goInt (Nat.min sLen dLen)) (w.setRow g (cur.toList.take o ++ cs ++ cur.toList.drop (o + cs.length)).toArray) := by
  have hl := run_firstCells_some (P := P) w i.size (Nat.min sLen dLen) a sLen sCap cs hn hsrc
  have hst := run_storeCells_at P g o tt cs 0 cur w hg (by simpa using hfit) h1
  simp only [Nat.add_zero] at hst
  simp [Builtin.copy_, run_underlying hu, Builtin.lenOf, sizeOf, typeInfo, hi, hl, hst]
theorem run_clear_size (w : World) (t ty elem : TypeId) (i : TypeInfo) (z : Value) (hu : P.underlying t = some (.slice elem)) (hi : P.info? elem = some i) (hz : i.zero = some z) (g o n c : Nat) (cur : Array Value) (tt : TypeId)
    (hg : w.heap[g]? = some (.cells cur tt (0, 0))) (hfit : o + (Builtin.zeroCells z.cells n).size ≤ cur.size) (h1 : ∀ v ∈ (Builtin.zeroCells z.cells n).toList, v.oneCell' = true) :
    (Builtin.clear_ #[t] ty #[.slice (some ⟨g, o, none⟩) n c]).run P w =
      .ok (.tuple #[]) (w.setRow g (cur.toList.take o ++ (Builtin.zeroCells z.cells n).toList ++ cur.toList.drop (o + (Builtin.zeroCells z.cells n).size)).toArray) := by
  have hst := run_storeCells_at P g o tt (Builtin.zeroCells z.cells n).toList 0 cur w hg (by simpa using hfit) h1
  simp only [Nat.add_zero, Array.length_toList] at hst
  cases n with
  | zero =>
    have h0 : (Builtin.zeroCells z.cells 0) = #[] := by simp [Builtin.zeroCells]
    rw [h0] at hst ⊢
    simp only [List.append_nil, Array.toList_empty, Array.size_empty, Nat.add_zero, List.take_append_drop] at hst ⊢
    simp [Builtin.clear_, run_underlying hu, setRow_self w g cur tt (0, 0) hg]
  | succ n => simp [Builtin.clear_, run_underlying hu, zeroValue, typeInfo, hi, hz, hst]
end
set_option maxHeartbeats 1000000 in
set_option maxRecDepth 100000 in
theorem clone_calls (A : Option Addr) (c : Nat) (xs : List S36) (w : World) (hr : Kd.C k36 w A xs.length xs) (hc : xs.length ≤ c) (hl : xs.length < 8796093022208) :
    Calls Try.prog 13 #[.slice A xs.length c] w fun e w' => ∃ v, e = .returned v ∧ Kd.R k36 36 w' w.heap.size (fun _ => True) v xs ∧ Below w.heap.size w w' := by
  have hu22 := Try.underlying22
  have hq : ∀ W : World, (binOp .eql 22 (.slice A xs.length c) (.slice none 0 0)).run Try.prog W = .ok (.bool A.isNone) W := fun W => by simp [binOp, run_equal_slice_nil (w := W) 22 36 A xs.length c hu22]
  have HR := Aside0.mk hr
  have HC := Aside0.mk hc
  have HL := Aside0.mk hl
  clear hr hc hl
  have HB := Aside0.mk (Below.refl w.heap.size w)
  cases A with
  | none =>
    go_enter Try.func13, Try.ntmps13
    go_wp2
    go_ret
    have hnil : xs = [] := by
      have h := HR.out
      cases xs with
      | nil => rfl
      | cons x r => exact absurd h (by simp [Kd.C, ReadsRow])
    subst hnil
    exact ⟨_, rfl, Kd.R_nil _ _ _ _ _, HB.out⟩
  | some ad =>
    go_enter Try.func13, Try.ntmps13
    go_wp2_with (first | ((with_reducible refine gate_dst (N := 5) rfl ?_); refine Kd.R_lit k36 _ 36 ?hg (N := 5) ?hd (xs := ([] : List S36)) (inner := []) (ok := fun _ => True) (okp := fun _ => True) ?hr ?hp (fun _ hk => hk) trivial (Below.refl _ _) (Nat.le_refl _) (by simp) ?_; (case hd => rfl); (case hg => rfl); (case hr => first | (go_simp; done) | (go_simp; rfl)); (case hp => exact (Reps.none _ _)); intro v1 w5 ho6 hb hg_ hnew_; clear hg_ hnew_; have n0_ := Aside0.mk (Kd.R_lower ho6 (below_size HB.out)); have n2_ := Aside0.mk (below_step HB.out hb); clear HB; have HO := n0_; have HB := n2_; clear n0_ n2_ hb ho6) | ((with_reducible refine gate_builtin (b := .append) (xs := #[.tmp 5, .tmp 6]) rfl ?_); at_builtin; go_loud (refine Kd.R_append_rows k36 (w0 := w) w.heap.size rfl (.tmp 5) (.tmp 6) 22 36 (.agg #[.int .u64 0, .int .u8 0]) 16 rfl Try.underlying22 info36 rfl (by decide) (by omega) v1 [] xs _ _ _ (fun _ => True) (fun _ => False) rfl rfl ?aO ?aR (fun _ _ h => h) (fun _ h => h.elim) ?aF ?aB ?aS ?aL ?_); (case aR => exact (Kd.C_below HR.out HB.out)); (case aB => exact HB.out); (case aF => exact (fun _ _ => trivial)); (case aO => exact HO.out); (case aS => exact below_size HB.out); (case aL => have := HL.out; simp; omega); intro v2 w7 ho hb hg hat))
    go_ret
    exact ⟨_, rfl, by simpa using ho, hb⟩
theorem R_beyond {w : World} {base : Nat} {ok : Nat → Prop} {g n c : Nat} {xs : List S36} (h : Kd.R k36 36 w base ok (.slice (some ⟨g, 0, none⟩) n c) xs) (j : Nat) (hj : n * 2 ≤ j) (u : Value) :
    Kd.R k36 36 (w.setCell ⟨g, j, none⟩ u) base ok (.slice (some ⟨g, 0, none⟩) n c) xs ∧ w.grownBy (w.setCell ⟨g, j, none⟩ u) (some g) := by
  obtain rfl := (Kd.R_reads' h).1
  obtain ⟨h0, inner, ho, hr⟩ := h
  have hs := World.ownsRow.stored ho j u
  have hl : inner.length = xs.length * 2 := ho.1
  rw [List.set_eq_of_length_le (by omega)] at hs
  exact ⟨⟨h0, inner, hs.1, hr⟩, hs.2⟩
theorem clear_last (g n c base : Nat) (ok : Nat → Prop) (xs : List S36) (w : World) (hr : Kd.R k36 36 w base ok (.slice (some ⟨g, 0, none⟩) (n - 1) c) xs) (hn0 : 0 < n) (hn : n ≤ c) (hb : base ≤ w.heap.size) :
    ∃ w1, (∀ ty cc, (Builtin.clear_ #[22] ty #[.slice (some ⟨g, (n - 1) * 2, none⟩) (n - (n - 1)) cc]).run Try.prog w = .ok (.tuple #[]) w1) ∧ Kd.R k36 36 w1 base ok (.slice (some ⟨g, 0, none⟩) (n - 1) c) xs ∧ Below base w w1 ∧ w.grownBy w1 (some g) := by
  obtain ⟨h1, h2, h3, h4, h5, cur, h6, h7, h8⟩ := R_open hr
  obtain ⟨i, hi, hzz⟩ := Option.map_eq_some_iff.1 info36
  simp only [Prod.mk.injEq] at hzz
  obtain ⟨hz0, hz1, hz2⟩ := hzz
  rw [show n - (n - 1) = 1 by omega]
  have hzc : (Builtin.zeroCells (Value.agg #[.int .u64 0, .int .u8 0]).cells 1) = #[.int .u64 0, .int .u8 0] := by kernel_rfl
  refine ⟨_, fun ty cc => run_clear_size w 22 ty 36 i _ Try.underlying22 hi hz0 g ((n - 1) * 2) 1 cc cur 36 h6 ?_ ?_, R_close h1 h2 h3 h4 h5 (setRow_heap w g cur _ 36 (0, 0) h6) ?_ ?_, ⟨rfl, rfl, rfl, by simp [World.setRow], fun k hk => setRow_other w g k _ (by omega)⟩, ⟨rfl, rfl, rfl, by simp [World.setRow], fun k hk hne => setRow_other w g k _ (fun e => hne (by rw [e]))⟩⟩
  · rw [hzc, h7]
    simp
    omega
  · rw [hzc]
    intro v hv
    simp at hv
    rcases hv with rfl | rfl <;> rfl
  · rw [hzc]
    simp
    omega
  · rw [hzc, ← h8]
    simp only [List.append_assoc]
    rw [List.take_append_of_le_length (by rw [List.length_take, Array.length_toList]; omega), List.take_take, Nat.min_self]
def del_T5 : Bool × List (List Nat × List Nat) := (true, [([], []), ([], []), ([0, 1], [0, 1]), ([], []), ([], []), ([3, 4], [3, 4]), ([2, 5], [2, 5]), ([6, 6, 0, 1, 2, 3, 4, 5, 6], [0, 3, 6])])
def del_B5 : List Nat := [0, 0, 3, 0, 0, 24, 63, 127]
theorem del_tab5 : rtab .any (opsOf Try.f16 5) = del_T5 := by kernel_rfl
theorem del_bits5 : waitsOk del_T5.2 del_B5 = true := by kernel_rfl
set_option maxHeartbeats 1000000 in
set_option maxRecDepth 100000 in
theorem delete_calls (g n c k base : Nat) (ok : Nat → Prop) (xs : List S36) (w : World) (hr : Kd.R k36 36 w base ok (.slice (some ⟨g, 0, none⟩) n c) xs) (hk : k < n) (hn : n ≤ c) (hc : c ≤ 9223372036854775807) (hb : base ≤ w.heap.size) :
    Calls Try.prog 16 #[.slice (some ⟨g, 0, none⟩) n c, .int .i64 k, .int .i64 ((k : Int) + 1)] w fun e w' => e = .returned (.slice (some ⟨g, 0, none⟩) (n - 1) c) ∧ Kd.R k36 36 w' base ok (.slice (some ⟨g, 0, none⟩) (n - 1) c) (xs.eraseIdx k) ∧ Below base w w' ∧ w.grownBy w' (some g) := by
  have HO := Aside0.mk hr
  have HZ := Aside0.mk hb
  clear hr hb
  have hkc : k ≤ c := by omega
  have hk1 : k + 1 ≤ n := hk
  have hk2 : (k : Int) + 1 ≤ n := by omega
  have hk3 : (0 : Int) ≤ (k : Int) + 1 := by omega
  have hk4 : ((k : Int) + 1).toNat = k + 1 := by omega
  go_enter Try.func16, Try.ntmps16
  go_wp2
  have HOd := Aside0.mk (Kd.R_drew HO.out)
  have HBd := Aside0.mk (below_drew1 (Below.refl base w))
  have HZd := Aside0.mk (show base ≤ w.drew.heap.size from HZ.out)
  have HGd := Aside0.mk (show w.grownBy w.drew (some g) from ⟨rfl, rfl, rfl, Nat.le_refl _, fun _ _ _ => rfl⟩)
  clear HO HZ
  refine start_ (n := 8) (S := fun w' => True) (ds := []) #[false, false, false, false, false, false, false, false] (by kernel_rfl) rfl rfl trivial (fun hHeld => ?_); refine with_tabW del_tab5 del_bits5 (fun HT_ HW_ => ?_)
  generalize w.drew = wd at HOd HBd HZd HGd ⊢
  refine pz_ (i := 0) (N := some 20) (h := ?_)
  refine pz_ (i := 1) (N := some 21) (h := ?_)
  refine pz_ (i := 2) (N := some 22) (h := ?_)
  refine pz_ (i := 3) (N := some 23) (h := ?_)
  refine pz_ (i := 4) (N := some 24) (h := ?_)
  refine pz_ (i := 5) (N := some 25) (h := ?_)
  refine nz_ (i := 6) (N := some 26) (h := fun K hK => ?_)
  refine Kd.R_delete_step k36 (w0 := w) base (by rfl) (.tmp 22) (.tmp 25) 22 36 rfl Try.underlying22 (by kernel_rfl) (g := g) (n := n) (c := c) (k := k) (m := n - (k + 1)) (c2 := c - (k + 1)) (xs := xs) (ok := ok) ?dS ?dX rfl rfl ?dO hk ?dB ?dZ ?_
  (case dS => go_simp)
  (case dX => go_simp; rfl)
  (case dO => exact HOd.out)
  (case dB => exact HBd.out)
  (case dZ => exact HZd.out)
  intro w9 ho hb hg
  have HO9 := Aside0.mk ho
  have HB9 := Aside0.mk hb
  have HG9 := Aside0.mk hg
  clear ho hb hg
  refine hK.out _ _ trivial (fun hHeld => ?_)
  clear hK K
  refine mz_ (some 26) (h := ?_)
  refine pz_ (i := 7) (N := some 0) (h := ?_)
  refine done_ (done_of HT_.out (by kernel_rfl)) ?_
  obtain ⟨w10, hcl0, HO10, HB10, HG10⟩ := clear_last g n c base ok _ _ HO9.out (by omega) hn (Nat.le_trans HZd.out HG9.out.size)
  have hcl := hcl0 0 (c - (n - 1))
  clear hcl0
  have HE := Aside0.mk (And.intro HO10 (And.intro (HB9.out.trans HB10) (show w.grownBy w10 (some g) from ⟨HG10.os.trans (HG9.out.os.trans HGd.out.os), HG10.tape.trans (HG9.out.tape.trans HGd.out.tape), HG10.output.trans (HG9.out.output.trans HGd.out.output), Nat.le_trans HGd.out.size (Nat.le_trans HG9.out.size HG10.size), fun j hj hne => (HG10.block j (Nat.lt_of_lt_of_le hj (Nat.le_trans HGd.out.size HG9.out.size)) hne).trans ((HG9.out.block j (Nat.lt_of_lt_of_le hj HGd.out.size) hne).trans (HGd.out.block j hj hne))⟩)))
  clear HO10 HB10 HG10
  have hcm : c = c := rfl
  go_wp2
  all_goals (go_ret; first | exact ⟨rfl, HE.out.1, HE.out.2.1, HE.out.2.2⟩ | (rename_i hck; rw [← hck]; exact ⟨rfl, HE.out.1, HE.out.2.1, HE.out.2.2⟩) | (subst_vars; exact ⟨rfl, HE.out.1, HE.out.2.1, HE.out.2.2⟩))
end Go.Proofs.Ytpogkinegkfokaa.MInterpretStores
