-- Written by a program of this session for this claim (out of the translation's print); Lean checks it.
import Derived.Test.YtenmljkddhonmaaMMrgx0
import Derived.Test.YtenmljkddhonmaaMMrgx1
import Derived.Test.YtenmljkddhonmaaMMrgx2
import Derived.Test.YtenmljkddhonmaaMMrgx3
namespace Go.Proofs.Ytenmljkddhonmaa.MMrg
open Go.RowKit Go.Proofs.YtenmljkddhonmaaW.PrintWords Go.Proofs.YtenmljkddhonmaaW.PrintLast Go.Proofs.YtenmljkddhonmaaW.PrintMore
attribute [local go_sem] max2_int min2_int max_two min_two max_three min_three max_four min_four   -- for this text's walks alone
set_option linter.unusedVariables false
set_option linter.unusedSimpArgs false

end Go.Proofs.Ytenmljkddhonmaa.MMrg
