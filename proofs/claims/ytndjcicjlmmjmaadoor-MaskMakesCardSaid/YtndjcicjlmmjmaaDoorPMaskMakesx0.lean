/- This text holds, for Go functions of the given program, Lean functions with the same answers, and proofs that the machine's calls come to these answers; each theorem names its own conditions. It was laid by a program of this session. -/
import Derived.Test.YtndjcicjlmmjmaaDoorProg
import Derived.Below
import Derived.Deep.Draws
import Derived.Deep.AppendLies
import Derived.Maps.AppendAt
import Derived.OwnWalk
import Derived.Laws.BytesArg
import Derived.Laws.MakeOwn
import Derived.Laws.OwnMore
import Derived.Deep.OwnRows
import Derived.Tactics
import Derived.Lib.ConvBytes
import Derived.Laws.Slices
import Derived.WalkKit
import Derived.KernelRfl
import Derived.RowKit3
import Derived.Deep.LoopGhost
import Derived.Deep.QuietTactic
import Derived.BigQuiet
import Derived.WideLaws
import Derived.Deep.DeepCutAuto
import Derived.Deep.CutBlock
import Derived.Deep.RegionHeld3
import Derived.Laws.Rows
import Derived.Lib.AppendStr
import Derived.ArgAppend
import Derived.Laws.IdiomCopy
import Derived.OrdersHeld
import Derived.Laws.BitsLemmas
import Derived.RowKit
import Derived.LoopN
import Derived.Laws.RangeAny
import Derived.Lib.OthersKept
import Derived.RegionTactic
import Derived.Test.YtndjcicjlmmjmaaDoorWWords
import Derived.Test.YtndjcicjlmmjmaaDoorWLast
import Derived.Test.YtndjcicjlmmjmaaDoorWTab
import Derived.Test.YtndjcicjlmmjmaaDoorWFour
import Derived.Test.YtndjcicjlmmjmaaDoorWQPut
import Derived.Test.YtndjcicjlmmjmaaDoorWApart
import Derived.Test.YtndjcicjlmmjmaaDoorWArr
import Derived.Test.YtndjcicjlmmjmaaDoorWZeros
import Derived.Test.YtndjcicjlmmjmaaDoorWFoot
import Derived.Test.YtndjcicjlmmjmaaDoorWKept
import Derived.Test.YtndjcicjlmmjmaaDoorWShare
import Derived.Test.YtndjcicjlmmjmaaDoorWN
import Derived.Test.YtndjcicjlmmjmaaDoorWFootNe
import Derived.Test.YtndjcicjlmmjmaaDoorWAt
import Derived.Test.YtndjcicjlmmjmaaDoorWEqStruct
import Derived.Test.YtndjcicjlmmjmaaDoorWRepsOne
import Derived.Test.YtndjcicjlmmjmaaDoorWInv
import Derived.Test.YtndjcicjlmmjmaaDoorWInvWords
import Derived.Test.YtndjcicjlmmjmaaDoorWGuard
import Derived.Test.YtndjcicjlmmjmaaDoorWNEv
import Derived.Test.YtndjcicjlmmjmaaDoorWMore
namespace Go.Proofs.YtndjcicjlmmjmaaDoor.PMaskMakes
open Go.RowKit Go.Proofs.YtndjcicjlmmjmaaDoorW.PrintWords Go.Proofs.YtndjcicjlmmjmaaDoorW.PrintLast Go.Proofs.YtndjcicjlmmjmaaDoorW.PrintMore
attribute [local go_sem] max2_int min2_int max_two min_two max_three min_three max_four min_four   -- for this text's walks alone
set_option linter.unusedVariables false
set_option linter.unusedSimpArgs false



def errW : Option Int → Value
  | none => .nilIface
  | some c => .iface 0 (.int .i64 c)
theorem errW_none : errW none = .nilIface := rfl
theorem errW_some (c : Int) : errW (some c) = .iface 0 (.int .i64 c) := rfl

def tab0 : List Int := [0, 1, 28, 2, 29, 14, 24, 3, 30, 22, 20, 15, 25, 17, 4, 8, 31, 27, 13, 23, 21, 19, 16, 7, 26, 12, 18, 6, 11, 5, 10, 9]
/-- The package-level tables hold what their initialisers lay. -/
def GOK (w : World) : Prop := (0 < w.heap.size ∧ ∀ j : Nat, j < 32 → w.cell? ⟨0, j, none⟩ = some (.int .u8 (tab0.getD j 0)))
theorem GOK.below {w W : World} (h : GOK w) (hb : Below w.heap.size w W) : GOK W := by
  obtain ⟨a0, b0⟩ := h
  exact ⟨Nat.lt_of_lt_of_le a0 hb.size, fun j hj => (hb.cell (p := ⟨0, j, none⟩) a0).trans (b0 j hj)⟩
theorem GOK.drawn {w W : World} (h : GOK w) (hb : Drawn0 w W) : GOK W := h.below hb.below
theorem info2 : (Tryd.prog.info? 2).map (fun i => (i.zero, i.size, i.bytes)) = some (some (.int .i64 0), 1, 8) := by kernel_rfl
theorem info4 : (Tryd.prog.info? 4).map (fun i => (i.zero, i.size, i.bytes)) = some (some (.bool false), 1, 1) := by kernel_rfl
-- the values' own types

end Go.Proofs.YtndjcicjlmmjmaaDoor.PMaskMakes
