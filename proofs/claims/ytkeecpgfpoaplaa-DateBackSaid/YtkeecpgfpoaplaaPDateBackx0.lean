/- This text holds, for Go functions of the given program, Lean functions with the same answers, and proofs that the machine's calls come to these answers; each theorem names its own conditions. It was laid by a program of this session. -/
import Derived.Test.YtkeecpgfpoaplaaProg
import Derived.Below
import Derived.Deep.Draws
import Derived.Deep.AppendLies
import Derived.Maps.AppendAt
import Derived.OwnWalk
import Derived.Laws.BytesArg
import Derived.Laws.MakeOwn
import Derived.Laws.OwnMore
import Derived.Deep.OwnRows
import Derived.Tactics
import Derived.Lib.ConvBytes
import Derived.Laws.Slices
import Derived.WalkKit
import Derived.KernelRfl
import Derived.RowKit3
import Derived.Deep.LoopGhost
import Derived.Deep.QuietTactic
import Derived.BigQuiet
import Derived.WideLaws
import Derived.Deep.DeepCutAuto
import Derived.Deep.CutBlock
import Derived.Deep.RegionHeld3
import Derived.Laws.Rows
import Derived.Lib.AppendStr
import Derived.ArgAppend
import Derived.Laws.IdiomCopy
import Derived.OrdersHeld
import Derived.Laws.BitsLemmas
import Derived.RowKit
import Derived.LoopN
import Derived.Test.YtkeecpgfpoaplaaWWords
import Derived.Test.YtkeecpgfpoaplaaWLast
import Derived.Test.YtkeecpgfpoaplaaWTab
import Derived.Test.YtkeecpgfpoaplaaWFour
import Derived.Test.YtkeecpgfpoaplaaWQPut
import Derived.Test.YtkeecpgfpoaplaaWApart
import Derived.Test.YtkeecpgfpoaplaaWArr
import Derived.Test.YtkeecpgfpoaplaaWZeros
import Derived.Test.YtkeecpgfpoaplaaWFoot
import Derived.Test.YtkeecpgfpoaplaaWKept
import Derived.Test.YtkeecpgfpoaplaaWShare
import Derived.Test.YtkeecpgfpoaplaaWN
import Derived.Test.YtkeecpgfpoaplaaWFootNe
import Derived.Test.YtkeecpgfpoaplaaWAt
import Derived.Test.YtkeecpgfpoaplaaWEqStruct
import Derived.Test.YtkeecpgfpoaplaaWRepsOne
import Derived.Test.YtkeecpgfpoaplaaWInv
import Derived.Test.YtkeecpgfpoaplaaWInvWords
import Derived.Test.YtkeecpgfpoaplaaWGuard
import Derived.Test.YtkeecpgfpoaplaaWNEv
import Derived.Test.YtkeecpgfpoaplaaWMore
namespace Go.Proofs.Ytkeecpgfpoaplaa.PDateBack
open Go.RowKit Go.Proofs.YtkeecpgfpoaplaaW.PrintWords Go.Proofs.YtkeecpgfpoaplaaW.PrintLast Go.Proofs.YtkeecpgfpoaplaaW.PrintMore
attribute [local go_sem] max2_int min2_int max_two min_two max_three min_three max_four min_four   -- for this text's walks alone
set_option linter.unusedVariables false
set_option linter.unusedSimpArgs false



def errW : Option Int → Value
  | none => .nilIface
  | some c => .iface 0 (.int .i64 c)
theorem errW_none : errW none = .nilIface := rfl
theorem errW_some (c : Int) : errW (some c) = .iface 0 (.int .i64 c) := rfl

-- the values' own types

end Go.Proofs.Ytkeecpgfpoaplaa.PDateBack
