/- Functions of the program as Lean functions, and of each a proof that the Go code comes to just its answers. Laid for this claim by wip/drive.py of this repo (our driver over the kit's printing program); no text of print.sh. No condition. -/
import Derived.Test.YtpogkinegkfokaaCISMInterpretStoresx0
import Derived.Test.YtpogkinegkfokaaCISMInterpretStoresx1
import Derived.Test.YtpogkinegkfokaaCISMInterpretStoresx2
import Derived.Test.YtpogkinegkfokaaCISMInterpretStoresx3
import Derived.Test.YtpogkinegkfokaaCISMInterpretStoresx4
import Derived.Test.YtpogkinegkfokaaCISMInterpretStoresx5
import Derived.Test.YtpogkinegkfokaaCISMInterpretStoresx6
namespace Go.Proofs.Ytpogkinegkfokaa.MInterpretStores
open Go.Proofs.Ytpogkinegkfokaa.Zed Go.RowKit Go.Proofs.YtpogkinegkfokaaW.PrintWords Go.Proofs.YtpogkinegkfokaaW.PrintLast Go.Proofs.YtpogkinegkfokaaW.PrintMore
attribute [local go_sem] max2_int min2_int max_two min_two max_three min_three max_four min_four   -- for this text's walks alone
set_option linter.unusedVariables false
set_option linter.unusedSimpArgs false

end Go.Proofs.Ytpogkinegkfokaa.MInterpretStores
