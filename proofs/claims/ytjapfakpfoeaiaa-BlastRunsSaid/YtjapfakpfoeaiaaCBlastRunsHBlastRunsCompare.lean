/- strings.Compare, as the laid texts tell a call: the order of the bytes' lists. No condition. -/
import Derived.Test.YtjapfakpfoeaiaaCBlastRunsMBlastRunsx0
import Derived.Lib.Bytealg
import Derived.Laws.Externs
set_option linter.unusedVariables false
namespace Go.Proofs.Ytjapfakpfoeaiaa.MBlastRuns
open Go.Proofs.Ytjapfakpfoeaiaa.Zed Go.RowKit Go.Proofs.YtjapfakpfoeaiaaW.PrintWords Go.Proofs.YtjapfakpfoeaiaaW.PrintLast Go.Proofs.YtjapfakpfoeaiaaW.PrintMore
theorem compare_string (a b : ByteArray) (w : World) :
    Calls Try.prog 36 #[.string a, .string b] w fun e w' => e = .returned (.int .i64 (Lib.compareBytes a.data.toList b.data.toList)) ∧ w' = w := by
  go_enter Try.func36, Try.ntmps36
  go_wp2
  rw [run_callFunc_extern Try.func42 q37_ q37_ q37_ (e := Extern.BytealgCompare.compare) q37_, Lib.run_compareString]
  simp only [Result.andThen]
  rw [Oper.upon_value]
  go_wp2
  go_ret
  exact ⟨rfl, rfl⟩
def strings_Compare.f (a0 : ByteArray) (a1 : ByteArray) : Option (Int) := some (Lib.compareBytes a0.data.toList a1.data.toList)
theorem strings_Compare.calls (a0 : ByteArray) (a1 : ByteArray) (r : Int) (w : World) (h : strings_Compare.f a0 a1 = some r) :
    Calls Try.prog 27 #[.string a0, .string a1] w fun e w' => e = .returned (.int .i64 r) ∧ Drawn0 w w' := by
  obtain rfl := Option.some.inj h
  go_enter Try.func27, Try.ntmps27
  go_wp2_with (go_at_call 36; refine (compare_string _ _ _).mono ?_; rintro e w' ⟨rfl, rfl⟩)
  go_ret
  exact ⟨rfl, Drawn0.refl _⟩
end Go.Proofs.Ytjapfakpfoeaiaa.MBlastRuns
