/- slices.SortFunc at bindings, nil too. -/
import Derived.Test.YtjopdafckhkmmaaDoorCBSatHBSTermSort
import Derived.Shelf.SlSortCmp.NoneTotal
set_option linter.unusedVariables false
set_option linter.unusedSimpArgs false
namespace Go.Proofs.YtjopdafckhkmmaaDoor.MBS
open Go.Proofs.YtjopdafckhkmmaaDoor.Zed Go.RowKit Go.Proofs.YtjopdafckhkmmaaDoorW.PrintWords Go.Proofs.YtjopdafckhkmmaaDoorW.PrintLast Go.Proofs.YtjopdafckhkmmaaDoorW.PrintMore
theorem sort_calls (W : World) (base : Nat) (v : Value) (xs : List Bg) (h : Kd.R k40 40 W base (fun _ => True) v xs) (hn : xs.length ≤ 1000000) :
    Calls Tryd.prog 30 #[v, .func (.func 31) #[] #[]] W fun e w' => e = .returned (.tuple #[]) ∧ ∃ ys : List Bg, ys.Perm xs ∧ ys.Pairwise (fun a b => ¬ cfB b a < 0) ∧
      Kd.R k40 40 w' base (fun _ => True) v ys ∧ W.grownBy w' v.ownBlock := by
  obtain ⟨_, inner, ho, _⟩ := id h
  rcases ho.2 with ⟨hv, hl⟩ | ⟨g, cap, cur, hv, _⟩
  · subst hv
    obtain rfl := List.eq_nil_of_length_eq_zero hl
    refine (AnyF.slices_SortFunc_none layB none 0 _ W).mono ?_
    rintro e w' ⟨rfl, rfl⟩
    exact ⟨rfl, [], List.Perm.refl _, List.Pairwise.nil, h, rfl, rfl, rfl, Nat.le_refl _, fun _ _ _ => rfl⟩
  · subst hv
    exact sort_some W base g _ cap xs h hn
end Go.Proofs.YtjopdafckhkmmaaDoor.MBS
