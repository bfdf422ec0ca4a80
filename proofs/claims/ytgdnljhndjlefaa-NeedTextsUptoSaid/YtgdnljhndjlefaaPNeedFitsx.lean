/- This text holds, for Go functions of the given program, Lean functions with the same answers, and proofs that the machine's calls come to these answers; each theorem names its own conditions. It was laid by a program of this session. -/
import Derived.Test.YtgdnljhndjlefaaPNeedFitsx0
import Derived.Test.YtgdnljhndjlefaaPNeedFitsx1
import Derived.Test.YtgdnljhndjlefaaPNeedFitsx2
import Derived.Test.YtgdnljhndjlefaaPNeedFitsx3
import Derived.Test.YtgdnljhndjlefaaPNeedFitsx4
namespace Go.Proofs.Ytgdnljhndjlefaa.PNeedFits
open Go.RowKit Go.Proofs.YtgdnljhndjlefaaW.PrintWords Go.Proofs.YtgdnljhndjlefaaW.PrintLast Go.Proofs.YtgdnljhndjlefaaW.PrintMore
attribute [local go_sem] max2_int min2_int max_two min_two max_three min_three max_four min_four   -- for this text's walks alone
set_option linter.unusedVariables false
set_option linter.unusedSimpArgs false

end Go.Proofs.Ytgdnljhndjlefaa.PNeedFits
