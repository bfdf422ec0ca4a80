/- This text holds, for Go functions of the given program, Lean functions with the same answers, and proofs that the machine's calls come to these answers; each theorem names its own conditions. It was laid by a program of this session. -/
import Derived.Test.YtgepalpcaphbeaaPPoolPlaysx0
import Derived.Test.YtgepalpcaphbeaaPPoolPlaysx1
import Derived.Test.YtgepalpcaphbeaaPPoolPlaysx2
import Derived.Test.YtgepalpcaphbeaaPPoolPlaysx3
namespace Go.Proofs.Ytgepalpcaphbeaa.PPoolPlays
open Go.RowKit Go.Proofs.YtgepalpcaphbeaaW.PrintWords Go.Proofs.YtgepalpcaphbeaaW.PrintLast Go.Proofs.YtgepalpcaphbeaaW.PrintMore
attribute [local go_sem] max2_int min2_int max_two min_two max_three min_three max_four min_four   -- for this text's walks alone
set_option linter.unusedVariables false
set_option linter.unusedSimpArgs false

end Go.Proofs.Ytgepalpcaphbeaa.PPoolPlays
