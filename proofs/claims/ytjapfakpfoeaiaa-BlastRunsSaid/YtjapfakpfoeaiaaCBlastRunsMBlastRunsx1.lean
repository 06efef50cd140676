/- Functions of the program as Lean functions, and of each a proof that the Go code comes to just its answers. Laid for this claim by wip/drive.py of this repo (our driver over the kit's printing program); no text of print.sh. No condition. -/
import Derived.Test.YtjapfakpfoeaiaaCBlastRunsMBlastRunsx0
namespace Go.Proofs.Ytjapfakpfoeaiaa.MBlastRuns
open Go.Proofs.Ytjapfakpfoeaiaa.Zed Go.RowKit Go.Proofs.YtjapfakpfoeaiaaW.PrintWords Go.Proofs.YtjapfakpfoeaiaaW.PrintLast Go.Proofs.YtjapfakpfoeaiaaW.PrintMore
attribute [local go_sem] max2_int min2_int max_two min_two max_three min_three max_four min_four   -- for this text's walks alone
set_option linter.unusedVariables false
set_option linter.unusedSimpArgs false

theorem eqA52 (d : Nat) (w : World) (x0 y0 : ByteArray) (x1 y1 : Int) :
  (Op.equalIn (d + 2) 52 (.agg #[.string x0, .int .i64 x1]) (.agg #[.string y0, .int .i64 y1])).run Try.prog w = .ok (x0.toList == y0.toList && (x1 == y1)) w := by
 refine eqA_of Try.underlying52 q37_ ?_
 refine eqf_cons (by rfl) (by go_simp; rfl) (by go_simp; rfl) (by go_simp) ?_
 exact eqf_last (by rfl) (by go_simp; rfl) (by go_simp; rfl) (by go_simp)
end Go.Proofs.Ytjapfakpfoeaiaa.MBlastRuns
