-- Printed by this session's own program (wip/print/mkprint.py, over the kit's print.py): plain text, checked by Lean.
import Derived.Test.YtjffghebcaklaaaDoorPIdx0
import Derived.Test.YtjffghebcaklaaaDoorPIdx1
import Derived.Test.YtjffghebcaklaaaDoorPIdx2
import Derived.Test.YtjffghebcaklaaaDoorPIdx3
namespace Go.Proofs.YtjffghebcaklaaaDoor.PId
attribute [local go_sem] Go.Proofs.YtjffghebcaklaaaDoorW.PrintWords.run_store_float
open Go Go.RowKit Go.Proofs.YtjffghebcaklaaaDoorW.PrintWords Go.Proofs.YtjffghebcaklaaaDoorW.PrintLast Go.Proofs.YtjffghebcaklaaaDoorW.PrintMore
attribute [local go_sem] max2_int min2_int max_two min_two max_three min_three max_four min_four   -- for this text's walks alone
set_option linter.unusedVariables false
set_option linter.unusedSimpArgs false

end Go.Proofs.YtjffghebcaklaaaDoor.PId
