/- What a law's argument reads as, as plain Lean values: from the form's reading of a value (DataW.trod) to the kinds of the printed words (Kd), for numbers, bools, strings, slices, structs and types nested in themselves. No condition. -/
import Derived.Test.YtjopdafckhkmmaaDoorCBSatV
import Derived.ProofKit
import Derived.OpenShut
import Derived.SizedLaws
import Derived.ChangeOld
import Derived.Deep.Slices
set_option linter.unusedVariables false
namespace Go.Proofs.YtjopdafckhkmmaaDoor.Opn
open Go.ChangeShapes Go.WideShapes Go.RowKit Go.Proofs.YtjopdafckhkmmaaDoorW.PrintWords

/-- What a reading of at most N steps gives: a value of the kind, and what is known of it. -/
def Opens {α : Type} (P : Program) (N : Nat) (t : TypeId) (d : Kd α) (wf : α → Prop) : Prop :=
  P.cellsOf t = d.sz ∧ ∀ (H : Type) (enc : TypeId × Value → H) (w : World) (spare : Nat → Bool) (held : Bool) (fuel : Nat) (cs : List Value) (x : DataW H × List MemPlace),
    fuel ≤ N → DataW.trod enc P w 0 spare held fuel t cs = some x → (∀ n ∈ x.1.weights P t, n ≤ reachBytes) → ∃ a, d.K w a cs ∧ wf a

theorem Opens.imp {α : Type} {P : Program} {N : Nat} {t : TypeId} {d : Kd α} {wf wf' : α → Prop} (h : Opens P N t d wf) (hi : ∀ a, wf a → wf' a) : Opens P N t d wf' :=
  ⟨h.1, fun H enc w spare held fuel cs x hN hx hs => by
    obtain ⟨a, h1, h2⟩ := h.2 H enc w spare held fuel cs x hN hx hs
    exact ⟨a, h1, hi a h2⟩⟩

theorem opens_int {P : Program} (N : Nat) {t : TypeId} {k : IntKind} (ht : P.underlying t = some (.int k)) (hc : P.cellsOf t = 1) : Opens P N t (Kd.int k) (fun n => (Lit.int k n).wf = true) := by
  refine ⟨hc, fun H enc w spare held fuel cs x _ hx _ => ?_⟩
  cases fuel with
  | zero => simp [DataW.trod] at hx
  | succ n =>
    unfold DataW.trod at hx
    rw [ht] at hx
    split at hx <;> simp_all
    exact ⟨_, rfl, hx.1.2⟩
theorem opens_bool {P : Program} (N : Nat) {t : TypeId} (ht : P.underlying t = some .bool) (hc : P.cellsOf t = 1) : Opens P N t Kd.bool (fun _ => True) := by
  refine ⟨hc, fun H enc w spare held fuel cs x _ hx _ => ?_⟩
  cases fuel with
  | zero => simp [DataW.trod] at hx
  | succ n =>
    unfold DataW.trod at hx
    rw [ht] at hx
    split at hx <;> simp_all
    rename_i b
    cases b
    · exact Or.inl rfl
    · exact Or.inr rfl
theorem opens_string {P : Program} (N : Nat) {t : TypeId} (ht : P.underlying t = some .string) (hc : P.cellsOf t = 1) : Opens P N t Kd.string (fun s => s.size ≤ 140737488351232) := by
  refine ⟨hc, fun H enc w spare held fuel cs x _ hx hs => ?_⟩
  cases fuel with
  | zero => simp [DataW.trod] at hx
  | succ n =>
    unfold DataW.trod at hx
    rw [ht] at hx
    split at hx <;> simp_all
    obtain ⟨_, rfl⟩ := hx
    refine ⟨_, rfl, ?_⟩
    have h2 := hs
    simp [DataW.weights] at h2
    exact h2

theorem weightsAll_mem {H : Type} {P : Program} {e : TypeId} : ∀ {ds : List (DataW H)} {d : DataW H}, d ∈ ds → ∀ n ∈ d.weights P e, n ∈ DataW.weightsAll P e ds
  | d0 :: ds, d, hd, n, hn => by
    simp only [DataW.weightsAll, List.mem_append]
    rcases List.mem_cons.1 hd with rfl | hd
    · exact Or.inl hn
    · exact Or.inr (weightsAll_mem hd n hn)

theorem opens_slice {α : Type} {P : Program} {N : Nat} {t e : TypeId} {d : Kd α} {wf : α → Prop} {B : Nat} (ht : P.underlying t = some (.slice e)) (hc : P.cellsOf t = 1) (hB : P.bytesOf e = B) (ho : Opens P N e d wf) :
    Opens P N t (Kd.slice e d) (fun l => l.length * B ≤ 140737488351232 ∧ ∀ a ∈ l, wf a) := by
  refine ⟨hc, fun H enc w spare held fuel cs x hN hx hs => ?_⟩
  rcases DataW.trod_slice ht hx with ⟨rfl, rfl⟩ | ⟨a, len, cap, elems, rest, n, rfl, rfl, rfl, _, hl, hm, hlen, hel, hsp, hns⟩
  · exact ⟨[], ⟨none, 0, rfl, Nat.le_refl _, by simp, by simp, fun h => absurd h (by simp)⟩, by simp, by simp⟩
  · have hin : ∀ i, i < len → ∃ v c, w.cells? 0 (a.add (i * P.cellsOf e)) (P.cellsOf e) = some c ∧ d.K w v c ∧ wf v := by
      intro i hi
      have h1 := hel i hi
      rw [List.getElem?_eq_getElem (by omega)] at h1
      obtain ⟨c, h2, h3⟩ := Option.bind_eq_some_iff.1 h1
      have h4 := ho.2 H enc w spare held n c _ (by omega) h3 (fun m hm' => hs m (by
        simp only [DataW.weights, ht]
        refine List.mem_cons_of_mem _ (List.mem_append_left _ (weightsAll_mem (List.mem_map.2 ⟨elems[i], List.getElem_mem _, rfl⟩) m hm'))))
      obtain ⟨v, h5, h6⟩ := h4
      exact ⟨v, c, h2, h5, h6⟩
    have hch : ∃ l : List α, l.length = len ∧ (∀ i v, l[i]? = some v → wf v ∧ ∃ c, w.cells? 0 (a.add (i * P.cellsOf e)) (P.cellsOf e) = some c ∧ d.K w v c) := by
      clear hs hel hsp hns hx hlen hl
      induction len with
      | zero => exact ⟨[], rfl, fun i v h => by simp at h⟩
      | succ len ih =>
        obtain ⟨l, hl1, hl2⟩ := ih (fun i hi => hin i (by omega))
        obtain ⟨v, c, h1, h2, h3⟩ := hin len (by omega)
        refine ⟨l ++ [v], by simp [hl1], fun i u hu => ?_⟩
        rcases Nat.lt_or_ge i l.length with h | h
        · rw [List.getElem?_append_left h] at hu
          exact hl2 i u hu
        · have hi : i = l.length := by
            have := (List.getElem?_eq_some_iff.1 hu).1
            simp at this
            omega
          subst hi
          have : v = u := by simpa using hu
          subst this
          rw [hl1]
          exact ⟨h3, c, h1, h2⟩
    obtain ⟨l, hl1, hl2⟩ := hch
    refine ⟨l, ⟨some a, cap, by rw [hl1], by omega, rfl, by have hm2 := hm; unfold maxLen at hm2; omega, fun _ => ⟨a, rfl, fun j p hj => ?_⟩⟩, ?_, fun v hv => ?_⟩
    · obtain ⟨h1, c, h2, h3⟩ := hl2 j p hj
      refine ⟨c, d.K_len h3, h3, fun i u hu => ?_⟩
      have h4 : w.cell? ((a.add (j * P.cellsOf e)).add i) = some u := by
        unfold World.cells? at h2
        split at h2
        · have h5 := mapM_some_get h2 i i (by
            have := (List.getElem?_eq_some_iff.1 hu).1
            have h6 := mapM_some_length h2
            rw [List.length_range] at h6
            rw [List.getElem?_range (by omega)])
          rw [h5, hu]
        · cases h2
      rw [Deep.add_add, ho.1] at h4
      exact h4
    · have h1 := hs ((elems.length + rest.length) * P.bytesOf e) (by simp [DataW.weights, ht])
      rw [hB] at h1
      have h2 : l.length * B ≤ (elems.length + rest.length) * B := Nat.mul_le_mul_right _ (by omega)
      unfold reachBytes at h1
      omega
    · obtain ⟨i, hi, rfl⟩ := List.mem_iff_getElem.1 hv
      exact (hl2 i _ (List.getElem?_eq_getElem hi)).1

/-- The fields of a struct from an offset on. -/
def OpensF {α : Type} (P : Program) (N : Nat) (off : Nat) (fs : List Field) (d : Kd α) (wf : α → Prop) : Prop :=
  ∀ (H : Type) (enc : TypeId × Value → H) (w : World) (spare : Nat → Bool) (held : Bool) (n : Nat) (cs : List Value) (ys : List (DataW H × List MemPlace)),
    n ≤ N → cs.length = off + d.sz → ys.length = fs.length → (∀ (i : Nat) (f : Field), fs[i]? = some f → DataW.trod enc P w 0 spare held n f.type ((cs.drop f.offset).take (P.cellsOf f.type)) = ys[i]?) →
    (∀ m ∈ DataW.weightsEach P (fs.map (·.type)) (ys.map (·.1)), m ≤ reachBytes) → ∃ a, d.K w a (cs.drop off) ∧ wf a

theorem opensF_one {α : Type} {P : Program} {N off : Nat} {f : Field} {d : Kd α} {wf : α → Prop} (hf : f.offset = off) (ho : Opens P N f.type d wf) : OpensF P N off [f] d wf := by
  intro H enc w spare held n cs ys hN hl hy hr hs
  obtain ⟨y, rfl⟩ : ∃ y, ys = [y] := by
    match ys, hy with
    | [y], _ => exact ⟨y, rfl⟩
  have h1 := hr 0 f rfl
  rw [hf, ho.1, List.take_of_length_le (by rw [List.length_drop]; omega)] at h1
  exact ho.2 H enc w spare held n _ y hN h1 (fun m hm => hs m (by simp [DataW.weightsEach, hm]))
theorem opensF_cons {α β : Type} {P : Program} {N off : Nat} {f : Field} {fs : List Field} {d : Kd α} {d' : Kd β} {wf : α → Prop} {wf' : β → Prop} (hf : f.offset = off) (ho : Opens P N f.type d wf) (hr : OpensF P N (off + d.sz) fs d' wf') :
    OpensF P N off (f :: fs) (Kd.pair d d') (fun x => wf x.1 ∧ wf' x.2) := by
  intro H enc w spare held n cs ys hN hl hy hrd hs
  obtain ⟨y, ys, rfl⟩ : ∃ y l, ys = y :: l := by
    match ys, hy with
    | y :: l, _ => exact ⟨y, l, rfl⟩
  have hl2 : cs.length = off + (d.sz + d'.sz) := hl
  have h1 := hrd 0 f rfl
  rw [hf, ho.1] at h1
  obtain ⟨a, ha, hw⟩ := ho.2 H enc w spare held n _ y hN h1 (fun m hm => hs m (by simp [DataW.weightsEach, hm]))
  obtain ⟨b, hb, hw'⟩ := hr H enc w spare held n cs ys hN (by omega) (by simpa using hy) (fun i g hg => by simpa using hrd (i + 1) g (by simpa using hg)) (fun m hm => hs m (by simp only [List.map_cons, DataW.weightsEach]; exact List.mem_append_right _ hm))
  refine ⟨(a, b), ⟨(cs.drop off).take d.sz, cs.drop (off + d.sz), ?_, ha, hb⟩, hw, hw'⟩
  rw [← List.drop_drop, List.take_append_drop]
theorem opens_struct {α : Type} {P : Program} {N : Nat} {t : TypeId} {fs : Array Field} {d : Kd α} {wf : α → Prop} (ht : P.underlying t = some (.struct fs)) (hc : P.cellsOf t = d.sz) (ho : OpensF P N 0 fs.toList d wf) : Opens P (N + 1) t d wf := by
  refine ⟨hc, fun H enc w spare held fuel cs x hN hx hs => ?_⟩
  obtain ⟨xs, n, rfl, rfl, hl, hxl, hr⟩ := DataW.trod_struct ht hx
  have := ho H enc w spare held n cs xs (by omega) (by omega) (by simpa using hxl) (fun i f hf => hr i f (by simpa using hf)) (fun m hm => hs m (by simpa only [DataW.weights, ht] using hm))
  simpa using this
theorem Opens.mono {α : Type} {P : Program} {N M : Nat} {t : TypeId} {d : Kd α} {wf : α → Prop} (h : Opens P N t d wf) (hM : M ≤ N) : Opens P M t d wf :=
  ⟨h.1, fun H enc w spare held fuel cs x hN hx hs => h.2 H enc w spare held fuel cs x (by omega) hx hs⟩
theorem opens_iso {α β : Type} {P : Program} {N : Nat} {t : TypeId} {d : Kd α} {wf : α → Prop} (f : β → α) (g : α → β) (hfg : ∀ a, f (g a) = a) (h : Opens P N t d wf) : Opens P N t (Kd.iso d f) (fun x => wf (f x)) :=
  ⟨h.1, fun H enc w spare held fuel cs x hN hx hs => by
    obtain ⟨a, h1, h2⟩ := h.2 H enc w spare held fuel cs x hN hx hs
    exact ⟨g a, by show d.K w (f (g a)) cs; rw [hfg]; exact h1, by show wf (f (g a)); rw [hfg]; exact h2⟩⟩
/-- A type nested in itself. -/
theorem opens_upto {α : Type} {P : Program} {t : TypeId} {F : Kd α → Kd α} {sz : Nat} {E : List Nat} {wf : α → Prop} (hc : P.cellsOf t = sz) (hs : ∀ n, (Kd.upto F sz E n).sz = sz)
    (step : ∀ N d, Opens P N t d wf → Opens P (N + 1) t (F d) wf) : ∀ N, Opens P N t (Kd.upto F sz E N) wf
  | 0 => ⟨hc, fun H enc w spare held fuel cs x hN hx _ => by
      obtain rfl : fuel = 0 := by omega
      simp [DataW.trod] at hx⟩
  | N + 1 => step N _ (opens_upto hc hs step N)
theorem opens_fix {α : Type} {P : Program} {t : TypeId} {F : Kd α → Kd α} {sz : Nat} {E : List Nat} {wf : α → Prop} (hc : P.cellsOf t = sz) (hs : ∀ n, (Kd.upto F sz E n).sz = sz) (hE : ∀ n q, q ∈ (Kd.upto F sz E n).E → q ∈ E)
    (step : ∀ N d, Opens P N t d wf → Opens P (N + 1) t (F d) wf) (N : Nat) : Opens P N t (Kd.fix F sz E hs hE) wf :=
  ⟨hc, fun H enc w spare held fuel cs x hN hx hw => by
    obtain ⟨a, h1, h2⟩ := (opens_upto hc hs step N).2 H enc w spare held fuel cs x hN hx hw
    exact ⟨a, ⟨N, h1⟩, h2⟩⟩

/-- An argument of a call, opened. -/
theorem Opens.arg {α : Type} {P : Program} {t : TypeId} {d : Kd α} {wf : α → Prop} (h : ∀ N, Opens P N t d wf) {H : Type} {enc : TypeId × Value → H} {W : World} {spare : Nat → Bool} {held : Bool} {ts : List TypeId} {ds : List (DataW H)} {j : Nat} {x : DataW H} {v : Value} {ps : List MemPlace}
    (hsz : (DataW.weightsEach P ts ds).all (· ≤ reachBytes) = true) (ht : ts[j]? = some t) (hd : ds[j]? = some x) (hr : DataW.Trod enc P W 0 spare held t v x ps) : ∃ a, d.K W a v.cells.toList ∧ wf a := by
  obtain ⟨fuel, hf⟩ := hr
  refine (h fuel).2 H enc W spare held fuel _ _ (Nat.le_refl _) hf (fun n hn => ?_)
  have := List.all_eq_true.1 hsz n (DataW.weights_mem_each ht hd n hn)
  simpa using this
end Go.Proofs.YtjopdafckhkmmaaDoor.Opn
