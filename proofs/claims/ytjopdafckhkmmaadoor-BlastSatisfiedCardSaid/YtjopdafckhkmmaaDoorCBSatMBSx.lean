/- Functions of the program as Lean functions, and of each a proof that the Go code comes to just its answers. Laid for this claim by wip/drive.py of this repo (our driver over the kit's printing program); no text of print.sh. No condition. -/
import Derived.Test.YtjopdafckhkmmaaDoorCBSatMBSx0
import Derived.Test.YtjopdafckhkmmaaDoorCBSatMBSx1
import Derived.Test.YtjopdafckhkmmaaDoorCBSatMBSx2
import Derived.Test.YtjopdafckhkmmaaDoorCBSatMBSx3
import Derived.Test.YtjopdafckhkmmaaDoorCBSatMBSx4
import Derived.Test.YtjopdafckhkmmaaDoorCBSatMBSx5
import Derived.Test.YtjopdafckhkmmaaDoorCBSatMBSx6
import Derived.Test.YtjopdafckhkmmaaDoorCBSatMBSx7
import Derived.Test.YtjopdafckhkmmaaDoorCBSatMBSx8
namespace Go.Proofs.YtjopdafckhkmmaaDoor.MBS
open Go.Proofs.YtjopdafckhkmmaaDoor.Zed Go.RowKit Go.Proofs.YtjopdafckhkmmaaDoorW.PrintWords Go.Proofs.YtjopdafckhkmmaaDoorW.PrintLast Go.Proofs.YtjopdafckhkmmaaDoorW.PrintMore
attribute [local go_sem] max2_int min2_int max_two min_two max_three min_three max_four min_four   -- for this text's walks alone
set_option linter.unusedVariables false
set_option linter.unusedSimpArgs false

end Go.Proofs.YtjopdafckhkmmaaDoor.MBS
