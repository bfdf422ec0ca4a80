/- This text holds, for Go functions of the given program, Lean functions with the same answers, and proofs that the machine's calls come to these answers; each theorem names its own conditions. It was laid by a program of this session. -/
import Derived.Test.YtndjcicjlmmjmaaDoorPMaskMakesx0
import Derived.Test.YtndjcicjlmmjmaaDoorPMaskMakesx1
import Derived.Test.YtndjcicjlmmjmaaDoorPMaskMakesx2
import Derived.Test.YtndjcicjlmmjmaaDoorPMaskMakesx3
namespace Go.Proofs.YtndjcicjlmmjmaaDoor.PMaskMakes
open Go.RowKit Go.Proofs.YtndjcicjlmmjmaaDoorW.PrintWords Go.Proofs.YtndjcicjlmmjmaaDoorW.PrintLast Go.Proofs.YtndjcicjlmmjmaaDoorW.PrintMore
attribute [local go_sem] max2_int min2_int max_two min_two max_three min_three max_four min_four   -- for this text's walks alone
set_option linter.unusedVariables false
set_option linter.unusedSimpArgs false

end Go.Proofs.YtndjcicjlmmjmaaDoor.PMaskMakes
