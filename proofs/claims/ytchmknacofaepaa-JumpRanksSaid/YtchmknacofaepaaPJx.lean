/- Written by this session's own driver of the kit's print (xprint.py), which hands it contracts that were proved by hand. -/
import Derived.Test.YtchmknacofaepaaPJx0
import Derived.Test.YtchmknacofaepaaPJx1
import Derived.Test.YtchmknacofaepaaPJx2
import Derived.Test.YtchmknacofaepaaPJx3
import Derived.Test.YtchmknacofaepaaPJx4
import Derived.Test.YtchmknacofaepaaPJx5
namespace Go.Proofs.Ytchmknacofaepaa.PJ
open Go.RowKit Go.Proofs.YtchmknacofaepaaW.PrintWords Go.Proofs.YtchmknacofaepaaW.PrintLast Go.Proofs.YtchmknacofaepaaW.PrintMore
attribute [local go_sem] max2_int min2_int max_two min_two max_three min_three max_four min_four   -- for this text's walks alone
set_option linter.unusedVariables false
set_option linter.unusedSimpArgs false

end Go.Proofs.Ytchmknacofaepaa.PJ
