/- This text holds, for Go functions of the given program, Lean functions with the same answers, and proofs that the machine's calls come to these answers; each theorem names its own conditions. It was laid by a program of this session. -/
import Derived.Test.YtjfghphblgkoiaaProg
import Derived.Below
import Derived.Deep.Draws
import Derived.Deep.AppendLies
import Derived.Maps.AppendAt
import Derived.OwnWalk
import Derived.Laws.BytesArg
import Derived.Laws.MakeOwn
import Derived.Laws.OwnMore
import Derived.Deep.OwnRows
import Derived.Tactics
import Derived.Lib.ConvBytes
import Derived.Laws.Slices
import Derived.WalkKit
import Derived.KernelRfl
import Derived.RowKit3
import Derived.Deep.LoopGhost
import Derived.Deep.QuietTactic
import Derived.BigQuiet
import Derived.WideLaws
import Derived.Deep.DeepCutAuto
import Derived.Deep.CutBlock
import Derived.Deep.RegionHeld3
import Derived.Laws.Rows
import Derived.Lib.AppendStr
import Derived.ArgAppend
import Derived.Laws.IdiomCopy
import Derived.OrdersHeld
import Derived.Laws.BitsLemmas
import Derived.RowKit
import Derived.LoopN
import Derived.Laws.RangeAny
import Derived.Lib.OthersKept
import Derived.RegionTactic
import Derived.Test.YtjfghphblgkoiaaWWords
import Derived.Test.YtjfghphblgkoiaaWLast
import Derived.Test.YtjfghphblgkoiaaWTab
import Derived.Test.YtjfghphblgkoiaaWFour
import Derived.Test.YtjfghphblgkoiaaWQPut
import Derived.Test.YtjfghphblgkoiaaWApart
import Derived.Test.YtjfghphblgkoiaaWArr
import Derived.Test.YtjfghphblgkoiaaWZeros
import Derived.Test.YtjfghphblgkoiaaWFoot
import Derived.Test.YtjfghphblgkoiaaWKept
import Derived.Test.YtjfghphblgkoiaaWShare
import Derived.Test.YtjfghphblgkoiaaWN
import Derived.Test.YtjfghphblgkoiaaWFootNe
import Derived.Test.YtjfghphblgkoiaaWAt
import Derived.Test.YtjfghphblgkoiaaWEqStruct
import Derived.Test.YtjfghphblgkoiaaWRepsOne
import Derived.Test.YtjfghphblgkoiaaWInv
import Derived.Test.YtjfghphblgkoiaaWInvWords
import Derived.Test.YtjfghphblgkoiaaWGuard
import Derived.Test.YtjfghphblgkoiaaWNEv
import Derived.Test.YtjfghphblgkoiaaWMore
namespace Go.Proofs.Ytjfghphblgkoiaa.PWeekNths
open Go.RowKit Go.Proofs.YtjfghphblgkoiaaW.PrintWords Go.Proofs.YtjfghphblgkoiaaW.PrintLast Go.Proofs.YtjfghphblgkoiaaW.PrintMore
attribute [local go_sem] max2_int min2_int max_two min_two max_three min_three max_four min_four   -- for this text's walks alone
set_option linter.unusedVariables false
set_option linter.unusedSimpArgs false



def errW : Option Int → Value
  | none => .nilIface
  | some c => .iface 0 (.int .i64 c)
theorem errW_none : errW none = .nilIface := rfl
theorem errW_some (c : Int) : errW (some c) = .iface 0 (.int .i64 c) := rfl

theorem info2 : (Try.prog.info? 2).map (fun i => (i.zero, i.size, i.bytes)) = some (some (.int .i64 0), 1, 8) := by kernel_rfl
-- the values' own types

end Go.Proofs.Ytjfghphblgkoiaa.PWeekNths
