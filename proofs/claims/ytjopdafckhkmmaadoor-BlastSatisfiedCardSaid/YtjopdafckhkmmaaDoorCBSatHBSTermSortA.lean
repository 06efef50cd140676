/- Rows of bindings as flat lists of values, and as the sort's rows of cells. -/
import Derived.Test.YtjopdafckhkmmaaDoorCBSatHBSTermIter
import Derived.Shelf.GgSortFunc.InsertionK
set_option linter.unusedVariables false
set_option linter.unusedSimpArgs false
namespace Go.Proofs.YtjopdafckhkmmaaDoor.MBS
open Go.Proofs.YtjopdafckhkmmaaDoor.Zed Go.RowKit Go.Proofs.YtjopdafckhkmmaaDoorW.PrintWords Go.Proofs.YtjopdafckhkmmaaDoorW.PrintLast Go.Proofs.YtjopdafckhkmmaaDoorW.PrintMore
abbrev Bg := S40
instance : Inhabited Bg := ⟨.mk ⟨#[]⟩ 0 0⟩
/-- A binding's cells. -/
def encB (x : Bg) : List Value := [.string x.f0, .int .i64 x.f1, .int .u64 x.f2]
def fb : List Bg → List Value
  | [] => []
  | x :: r => .string x.f0 :: .int .i64 x.f1 :: .int .u64 x.f2 :: fb r
theorem fb_length : ∀ xs : List Bg, (fb xs).length = xs.length * 3
  | [] => rfl
  | x :: r => by simp only [fb, List.length_cons, fb_length r]; omega
theorem fb_get : ∀ (xs : List Bg) (j : Nat), j < xs.length * 3 → (fb xs)[j]? = some (encB xs[j / 3]!)[j % 3]!
  | [], j, h => by simp at h
  | x :: r, 0, h => rfl
  | x :: r, 1, h => rfl
  | x :: r, 2, h => rfl
  | x :: r, j + 3, h => by
    have h1 := fb_get r j (by simp at h; omega)
    have h2 : (j + 3) / 3 = j / 3 + 1 := by omega
    have h3 : (j + 3) % 3 = j % 3 := by omega
    rw [h2, h3]
    simp only [fb, List.getElem?_cons_succ, List.getElem!_cons_succ]
    exact h1
theorem fb_reps {R : Bg → List Value → Prop} (hR : ∀ x, R x [.string x.f0, .int .i64 x.f1, .int .u64 x.f2]) : ∀ xs : List Bg, Reps R 3 xs (fb xs)
  | [] => Reps.none _ _
  | x :: r => by
    have h := Kd.reps_append (R := R) (size := 3) (ps := [x]) (cs := [.string x.f0, .int .i64 x.f1, .int .u64 x.f2]) ⟨rfl, fun j p hj => by
      cases j with
      | zero => simp at hj; subst hj; exact hR _
      | succ j => simp at hj⟩ (fb_reps hR r)
    exact h
theorem reps_fb {R : Bg → List Value → Prop} (hR : ∀ x cs, R x cs → cs = [.string x.f0, .int .i64 x.f1, .int .u64 x.f2]) : ∀ (xs : List Bg) (cs : List Value), Reps R 3 xs cs → cs = fb xs
  | [], cs, h => List.eq_nil_of_length_eq_zero h.1
  | x :: r, cs, h => by
    have h1 := hR _ _ (h.2 0 x rfl)
    have h2 := reps_fb hR r _ (Kd.reps_drop (m := 1) h)
    simp only [Nat.zero_mul, List.drop_zero, Nat.one_mul] at h1 h2
    rw [← List.take_append_drop 3 cs, h1, h2]
    rfl
theorem RB_open {w : World} {base : Nat} {ok : Nat → Prop} {g n c : Nat} {xs : List Bg} (h : Kd.R k40 40 w base ok (.slice (some ⟨g, 0, none⟩) n c) xs) :
    xs.length = n ∧ n ≤ c ∧ c ≤ maxLen ∧ base ≤ g ∧ ok g ∧ ∃ cur, w.heap[g]? = some (.cells cur 40 (0, 0)) ∧ cur.size = c * 3 ∧ cur.toList.take (n * 3) = fb xs := by
  obtain rfl := (Kd.R_reads' h).1
  obtain ⟨h0, inner, ho, hr⟩ := h
  have hi := reps_fb (fun x cs hx => k40_openM hx) xs inner hr
  rcases ho.2 with ⟨hv, _⟩ | ⟨g', cap, cur, hv, hb, hg, hn, hm, hs, ht⟩
  · cases hv
  · injection hv with h1 h2 h3
    injection h1 with h1
    injection h1 with h1
    subst h1; subst h3
    exact ⟨rfl, hn, hm, hb, h0 _ (by simp [Value.ownBlock]), cur, hg, hs, by rw [← hi]; exact ht⟩
theorem RB_close {w : World} {base : Nat} {ok : Nat → Prop} {g n c : Nat} {xs : List Bg} {cur : Array Value} (hn : xs.length = n) (hnc : n ≤ c) (hcm : c ≤ maxLen) (hb : base ≤ g) (hok : ok g)
    (hg : w.heap[g]? = some (.cells cur 40 (0, 0))) (hs : cur.size = c * 3) (ht : cur.toList.take (n * 3) = fb xs) : Kd.R k40 40 w base ok (.slice (some ⟨g, 0, none⟩) n c) xs := by
  subst hn
  exact ⟨fun k hk => by simp [Value.ownBlock] at hk; subst hk; exact hok, fb xs, ⟨fb_length xs, .inr ⟨g, c, cur, rfl, hb, hg, hnc, hcm, hs, ht⟩⟩, fb_reps (fun x => k40_mkM _ _ _ x) xs⟩
/-- The row as the sort sees it. -/
theorem holds_of {w : World} {g n c : Nat} {xs : List Bg} {cur : Array Value} (hn : xs.length = n) (hnc : n ≤ c) (hg : w.heap[g]? = some (.cells cur 40 (0, 0))) (hs : cur.size = c * 3) (ht : cur.toList.take (n * 3) = fb xs) : Sort.HoldsK encB 3 w g 0 xs.toArray := by
  intro j hj
  rw [Sort.size_flatK] at hj
  have hj' : j < xs.length * 3 := by simpa using hj
  rw [Sort.get_flatK _ _ _ _ hj]
  have h1 := fb_get xs j hj'
  have h2 : cur[j]? = some (encB xs[j / 3]!)[j % 3]! := by
    rw [← h1, ← ht, ← hn, List.getElem?_take, if_pos hj', Array.getElem?_toList]
  refine ⟨?_, ?_⟩
  · simp only [Nat.zero_add, World.cell?, hg]
    rw [h2]
    simp
  · simp [World.frozen?, hg]
theorem fb_flat (d : Array Bg) : (Sort.flatK encB 3 d).toList = fb d.toList := by
  apply List.ext_getElem?
  intro j
  by_cases hj : j < d.size * 3
  · have h1 := fb_get d.toList j (by simpa using hj)
    have h2 := Sort.get_flatK encB 3 d j hj
    have h3 : j < (Sort.flatK encB 3 d).size := by rw [Sort.size_flatK]; exact hj
    rw [h1, Array.getElem?_toList, Array.getElem?_eq_getElem h3]
    rw [getElem!_pos _ j h3] at h2
    rw [h2]
    have h5 : j / 3 < d.size := by omega
    rw [getElem!_pos d _ h5, getElem!_pos d.toList _ (by simpa using h5), Array.getElem_toList]
  · rw [List.getElem?_eq_none (by rw [Array.length_toList, Sort.size_flatK]; omega), List.getElem?_eq_none (by rw [fb_length]; simp; omega)]
/-- What the sort leaves. -/
theorem sorted_world {W : World} {g n c m : Nat} {cur : Array Value} {d' : Array Bg} {os : Array Obj} (hnc : n ≤ c) (hd : d'.size = n) (hg : W.heap[g]? = some (.cells cur 40 (0, 0))) (hs : cur.size = c * 3) :
    W.grownBy (sortWorldK encB 3 W g 0 m d' os) (some g) ∧ ∃ cur', (sortWorldK encB 3 W g 0 m d' os).heap[g]? = some (.cells cur' 40 (0, 0)) ∧ cur'.size = c * 3 ∧ cur'.toList.take (n * 3) = fb d'.toList := by
  have hlt := (Array.getElem?_eq_some_iff.1 hg).1
  have hget : ∀ k, k < W.heap.size → (sortWorldK encB 3 W g 0 m d' os).heap[k]? = (W.heap.modify g (Sort.onCells (Sort.putCells id 0 (Sort.flatK encB 3 d'))))[k]? := fun k hk => by
    show (W.heap.modify g _ ++ os)[k]? = _
    rw [Array.getElem?_append_left (by simpa using hk)]
  refine ⟨⟨rfl, rfl, rfl, ?_, ?_⟩, Sort.putCells id 0 (Sort.flatK encB 3 d') cur, ?_, ?_, ?_⟩
  · show W.heap.size ≤ (W.heap.modify g _ ++ os).size
    simp
  · intro k hk hne
    rw [hget k hk, Array.getElem?_modify, if_neg (fun e => hne (by rw [e]))]
  · rw [hget g hlt, Array.getElem?_modify, if_pos rfl, hg]
    rfl
  · simp [Sort.putCells, hs]
  · rw [← fb_flat]
    apply List.ext_getElem?
    intro j
    have hsz : (Sort.flatK encB 3 d').size = n * 3 := by rw [Sort.size_flatK, hd]
    by_cases hj : j < n * 3
    · rw [List.getElem?_take, if_pos hj, Array.getElem?_toList, Array.getElem?_toList]
      have h1 : j < cur.size := by rw [hs]; omega
      have h2 : j < (Sort.flatK encB 3 d').size := by omega
      rw [Array.getElem?_eq_getElem h2]
      simp only [Sort.putCells, Array.getElem?_mapIdx, Array.getElem?_eq_getElem h1, Option.map_some, Nat.zero_le, true_and, Nat.zero_add, h2, if_true, Nat.sub_zero, id]
      rw [getElem!_pos _ j h2]
    · rw [List.getElem?_eq_none (by rw [List.length_take]; omega), List.getElem?_eq_none (by rw [Array.length_toList]; omega)]
end Go.Proofs.YtjopdafckhkmmaaDoor.MBS
