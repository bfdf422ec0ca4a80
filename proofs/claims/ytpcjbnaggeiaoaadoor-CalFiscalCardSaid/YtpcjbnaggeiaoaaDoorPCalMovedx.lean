/- This text holds, for Go functions of the given program, Lean functions with the same answers, and proofs that the machine's calls come to these answers; each theorem names its own conditions. It was laid by a program of this session. -/
import Derived.Test.YtpcjbnaggeiaoaaDoorPCalMovedx0
import Derived.Test.YtpcjbnaggeiaoaaDoorPCalMovedx1
import Derived.Test.YtpcjbnaggeiaoaaDoorPCalMovedx2
import Derived.Test.YtpcjbnaggeiaoaaDoorPCalMovedx3
import Derived.Test.YtpcjbnaggeiaoaaDoorPCalMovedx4
import Derived.Test.YtpcjbnaggeiaoaaDoorPCalMovedx5
import Derived.Test.YtpcjbnaggeiaoaaDoorPCalMovedx6
import Derived.Test.YtpcjbnaggeiaoaaDoorPCalMovedx7
import Derived.Test.YtpcjbnaggeiaoaaDoorPCalMovedx8
import Derived.Test.YtpcjbnaggeiaoaaDoorPCalMovedx9
import Derived.Test.YtpcjbnaggeiaoaaDoorPCalMovedx10
namespace Go.Proofs.YtpcjbnaggeiaoaaDoor.PCalMoved
open Go.RowKit Go.Proofs.YtpcjbnaggeiaoaaDoorW.PrintWords Go.Proofs.YtpcjbnaggeiaoaaDoorW.PrintLast Go.Proofs.YtpcjbnaggeiaoaaDoorW.PrintMore
attribute [local go_sem] max2_int min2_int max_two min_two max_three min_three max_four min_four   -- for this text's walks alone
set_option linter.unusedVariables false
set_option linter.unusedSimpArgs false

end Go.Proofs.YtpcjbnaggeiaoaaDoor.PCalMoved
