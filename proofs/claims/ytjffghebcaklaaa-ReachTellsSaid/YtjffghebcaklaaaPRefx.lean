-- Printed by this session's own program (wip/print/mkprint.py, over the kit's print.py): plain text, checked by Lean.
import Derived.Test.YtjffghebcaklaaaPRefx0
import Derived.Test.YtjffghebcaklaaaPRefx1
import Derived.Test.YtjffghebcaklaaaPRefx2
import Derived.Test.YtjffghebcaklaaaPRefx3
import Derived.Test.YtjffghebcaklaaaPRefx4
import Derived.Test.YtjffghebcaklaaaPRefx5
import Derived.Test.YtjffghebcaklaaaPRefx7
import Derived.Test.YtjffghebcaklaaaPRefx8
import Derived.Test.YtjffghebcaklaaaPRefx9
namespace Go.Proofs.Ytjffghebcaklaaa.PRef
attribute [local go_sem] Go.Proofs.YtjffghebcaklaaaW.PrintWords.run_store_float
open Go Go.RowKit Go.Proofs.YtjffghebcaklaaaW.PrintWords Go.Proofs.YtjffghebcaklaaaW.PrintLast Go.Proofs.YtjffghebcaklaaaW.PrintMore
attribute [local go_sem] max2_int min2_int max_two min_two max_three min_three max_four min_four   -- for this text's walks alone
set_option linter.unusedVariables false
set_option linter.unusedSimpArgs false

end Go.Proofs.Ytjffghebcaklaaa.PRef
