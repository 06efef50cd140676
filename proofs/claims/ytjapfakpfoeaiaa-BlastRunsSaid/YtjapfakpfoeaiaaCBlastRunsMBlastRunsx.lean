/- Functions of the program as Lean functions, and of each a proof that the Go code comes to just its answers. Laid for this claim by wip/drive.py of this repo (our driver over the kit's printing program); no text of print.sh. No condition. -/
import Derived.Test.YtjapfakpfoeaiaaCBlastRunsMBlastRunsx0
import Derived.Test.YtjapfakpfoeaiaaCBlastRunsMBlastRunsx1
import Derived.Test.YtjapfakpfoeaiaaCBlastRunsMBlastRunsx2
import Derived.Test.YtjapfakpfoeaiaaCBlastRunsMBlastRunsx3
import Derived.Test.YtjapfakpfoeaiaaCBlastRunsMBlastRunsx4
import Derived.Test.YtjapfakpfoeaiaaCBlastRunsMBlastRunsx5
import Derived.Test.YtjapfakpfoeaiaaCBlastRunsMBlastRunsx6
import Derived.Test.YtjapfakpfoeaiaaCBlastRunsMBlastRunsx7
import Derived.Test.YtjapfakpfoeaiaaCBlastRunsMBlastRunsx8
import Derived.Test.YtjapfakpfoeaiaaCBlastRunsMBlastRunsx9
import Derived.Test.YtjapfakpfoeaiaaCBlastRunsMBlastRunsx10
import Derived.Test.YtjapfakpfoeaiaaCBlastRunsMBlastRunsx11
import Derived.Test.YtjapfakpfoeaiaaCBlastRunsMBlastRunsx12
import Derived.Test.YtjapfakpfoeaiaaCBlastRunsMBlastRunsx13
import Derived.Test.YtjapfakpfoeaiaaCBlastRunsMBlastRunsx14
import Derived.Test.YtjapfakpfoeaiaaCBlastRunsMBlastRunsx15
import Derived.Test.YtjapfakpfoeaiaaCBlastRunsMBlastRunsx16
import Derived.Test.YtjapfakpfoeaiaaCBlastRunsMBlastRunsx17
namespace Go.Proofs.Ytjapfakpfoeaiaa.MBlastRuns
open Go.Proofs.Ytjapfakpfoeaiaa.Zed Go.RowKit Go.Proofs.YtjapfakpfoeaiaaW.PrintWords Go.Proofs.YtjapfakpfoeaiaaW.PrintLast Go.Proofs.YtjapfakpfoeaiaaW.PrintMore
attribute [local go_sem] max2_int min2_int max_two min_two max_three min_three max_four min_four   -- for this text's walks alone
set_option linter.unusedVariables false
set_option linter.unusedSimpArgs false

end Go.Proofs.Ytjapfakpfoeaiaa.MBlastRuns
