/-
  No cell of these rows narrows 'for every input' (looked for: loops, veiled, ifaces, maps, wideKeys, modest, calm, conditions, laid).
  DERIVED. THE GIVEN ROWS OF THIS SEAT. 7 by the template 'for every input the law returns true; each argument reads behind the call as it read before'; 0 by the template 'total and deterministic' (their statements: YtjfghphblgkoiaaTotals.lean).
  GIVEN WITH THE SEED: the statements are not yours to turn. If you find one false, say at which input.
  Laid BY PROGRAM, IN A SANDBOX (cutbox-rows.mjs): the forced cells as the released guide's own fill.sh prints them over the translation d51219847d734250… (all of the seat's roots in one cut). By AI agents, Wed Nov 11 2026. No macro, syntax, notation, axiom, sorry.
-/
import Derived.Test.YtjfghphblgkoiaaChecked
import GoSem.Claim
import GoSem.ClaimJoined
import GoSem.ClaimMapViews
import Derived.JoinedTies
import Derived.KernelRfl
namespace Go.Proofs.Ytjfghphblgkoiaa
/- THE CELL 'sum', in the pinned program and in every row, IS THE sha256 OF THE DUMP (.gsa) THAT YtjfghphblgkoiaaProg.lean LOADS. Nothing in Lean hashes anything: it is a label: what it is worth is what the hold of that sum in a sandbox is worth. -/
noncomputable def Try.pinned : Pinned := { name := "ytjfghphblgkoiaa", sum := "d51219847d734250000510c8dbaf18aab2df5978e7ca5192606a6f1524ebe87d", checked := Try.checked }
namespace Rows
def none {H : Type} : Left H := { results := [], args := [] }

/-- 'dayshiftlaw02.WeekNths': WHATEVER THE INPUT: true; the input reads as it did. -/
def weekNthsSpec : ChangeSpec := { name := "weekNths", fn := fun _ => fun
  | [d1, d2, d3, d4] => { results := [.lit (.bool true)], args := [d1, d2, d3, d4] }
  | _ => none }
def weekNthsRow : OpenClaim := { program := "ytjfghphblgkoiaa", sum := "d51219847d734250000510c8dbaf18aab2df5978e7ca5192606a6f1524ebe87d", func := "dayshift/dayshiftlaw02.WeekNths", spec := "weekNths", apart := false }
def WeekNthsSaid : Prop := weekNthsRow.holds Try.pinned (OpenSpec.ofChange weekNthsSpec)

/-- ITS FALSE NEIGHBOUR: 'it returns false'. Refute it at one input. -/
def weekNthsWrong : ChangeSpec := { name := "weekNths", fn := fun _ => fun
  | [d1, d2, d3, d4] => { results := [.lit (.bool false)], args := [d1, d2, d3, d4] }
  | _ => none }
def WeekNthsWrongFalsely : Prop := weekNthsRow.holds Try.pinned (OpenSpec.ofChange weekNthsWrong)

/-- 'dayshiftlaw02.WeekOrder': WHATEVER THE INPUT: true; the input reads as it did. -/
def weekOrderSpec : ChangeSpec := { name := "weekOrder", fn := fun _ => fun
  | [d1, d2, d3] => { results := [.lit (.bool true)], args := [d1, d2, d3] }
  | _ => none }
def weekOrderRow : OpenClaim := { program := "ytjfghphblgkoiaa", sum := "d51219847d734250000510c8dbaf18aab2df5978e7ca5192606a6f1524ebe87d", func := "dayshift/dayshiftlaw02.WeekOrder", spec := "weekOrder", apart := false }
def WeekOrderSaid : Prop := weekOrderRow.holds Try.pinned (OpenSpec.ofChange weekOrderSpec)

/-- ITS FALSE NEIGHBOUR: 'it returns false'. Refute it at one input. -/
def weekOrderWrong : ChangeSpec := { name := "weekOrder", fn := fun _ => fun
  | [d1, d2, d3] => { results := [.lit (.bool false)], args := [d1, d2, d3] }
  | _ => none }
def WeekOrderWrongFalsely : Prop := weekOrderRow.holds Try.pinned (OpenSpec.ofChange weekOrderWrong)

/-- 'dayshiftlaw02.WeekRuns': WHATEVER THE INPUT: true; the input reads as it did. -/
def weekRunsSpec : ChangeSpec := { name := "weekRuns", fn := fun _ => fun
  | [d] => { results := [.lit (.bool true)], args := [d] }
  | _ => none }
def weekRunsRow : OpenClaim := { program := "ytjfghphblgkoiaa", sum := "d51219847d734250000510c8dbaf18aab2df5978e7ca5192606a6f1524ebe87d", func := "dayshift/dayshiftlaw02.WeekRuns", spec := "weekRuns", apart := false }
def WeekRunsSaid : Prop := weekRunsRow.holds Try.pinned (OpenSpec.ofChange weekRunsSpec)

/-- ITS FALSE NEIGHBOUR: 'it returns false'. Refute it at one input. -/
def weekRunsWrong : ChangeSpec := { name := "weekRuns", fn := fun _ => fun
  | [d] => { results := [.lit (.bool false)], args := [d] }
  | _ => none }
def WeekRunsWrongFalsely : Prop := weekRunsRow.holds Try.pinned (OpenSpec.ofChange weekRunsWrong)

/-- 'dayshiftlaw02.WeekEnds': WHATEVER THE INPUT: true; the input reads as it did. -/
def weekEndsSpec : ChangeSpec := { name := "weekEnds", fn := fun _ => fun
  | [d1, d2, d3, d4] => { results := [.lit (.bool true)], args := [d1, d2, d3, d4] }
  | _ => none }
def weekEndsRow : OpenClaim := { program := "ytjfghphblgkoiaa", sum := "d51219847d734250000510c8dbaf18aab2df5978e7ca5192606a6f1524ebe87d", func := "dayshift/dayshiftlaw02.WeekEnds", spec := "weekEnds", apart := false }
def WeekEndsSaid : Prop := weekEndsRow.holds Try.pinned (OpenSpec.ofChange weekEndsSpec)

/-- ITS FALSE NEIGHBOUR: 'it returns false'. Refute it at one input. -/
def weekEndsWrong : ChangeSpec := { name := "weekEnds", fn := fun _ => fun
  | [d1, d2, d3, d4] => { results := [.lit (.bool false)], args := [d1, d2, d3, d4] }
  | _ => none }
def WeekEndsWrongFalsely : Prop := weekEndsRow.holds Try.pinned (OpenSpec.ofChange weekEndsWrong)

/-- 'dayshiftlaw02.WeekTimes': WHATEVER THE INPUT: true; the input reads as it did. -/
def weekTimesSpec : ChangeSpec := { name := "weekTimes", fn := fun _ => fun
  | [d1, d2] => { results := [.lit (.bool true)], args := [d1, d2] }
  | _ => none }
def weekTimesRow : OpenClaim := { program := "ytjfghphblgkoiaa", sum := "d51219847d734250000510c8dbaf18aab2df5978e7ca5192606a6f1524ebe87d", func := "dayshift/dayshiftlaw02.WeekTimes", spec := "weekTimes", apart := false }
def WeekTimesSaid : Prop := weekTimesRow.holds Try.pinned (OpenSpec.ofChange weekTimesSpec)

/-- ITS FALSE NEIGHBOUR: 'it returns false'. Refute it at one input. -/
def weekTimesWrong : ChangeSpec := { name := "weekTimes", fn := fun _ => fun
  | [d1, d2] => { results := [.lit (.bool false)], args := [d1, d2] }
  | _ => none }
def WeekTimesWrongFalsely : Prop := weekTimesRow.holds Try.pinned (OpenSpec.ofChange weekTimesWrong)

/-- 'dayshiftlaw02.WeekClocks': WHATEVER THE INPUT: true; the input reads as it did. -/
def weekClocksSpec : ChangeSpec := { name := "weekClocks", fn := fun _ => fun
  | [d1, d2, d3, d4] => { results := [.lit (.bool true)], args := [d1, d2, d3, d4] }
  | _ => none }
def weekClocksRow : OpenClaim := { program := "ytjfghphblgkoiaa", sum := "d51219847d734250000510c8dbaf18aab2df5978e7ca5192606a6f1524ebe87d", func := "dayshift/dayshiftlaw02.WeekClocks", spec := "weekClocks", apart := false }
def WeekClocksSaid : Prop := weekClocksRow.holds Try.pinned (OpenSpec.ofChange weekClocksSpec)

/-- ITS FALSE NEIGHBOUR: 'it returns false'. Refute it at one input. -/
def weekClocksWrong : ChangeSpec := { name := "weekClocks", fn := fun _ => fun
  | [d1, d2, d3, d4] => { results := [.lit (.bool false)], args := [d1, d2, d3, d4] }
  | _ => none }
def WeekClocksWrongFalsely : Prop := weekClocksRow.holds Try.pinned (OpenSpec.ofChange weekClocksWrong)

/-- 'dayshiftlaw02.WeekDays': WHATEVER THE INPUT: true; the input reads as it did. -/
def weekDaysSpec : ChangeSpec := { name := "weekDays", fn := fun _ => fun
  | [d] => { results := [.lit (.bool true)], args := [d] }
  | _ => none }
def weekDaysRow : OpenClaim := { program := "ytjfghphblgkoiaa", sum := "d51219847d734250000510c8dbaf18aab2df5978e7ca5192606a6f1524ebe87d", func := "dayshift/dayshiftlaw02.WeekDays", spec := "weekDays", apart := false }
def WeekDaysSaid : Prop := weekDaysRow.holds Try.pinned (OpenSpec.ofChange weekDaysSpec)

/-- ITS FALSE NEIGHBOUR: 'it returns false'. Refute it at one input. -/
def weekDaysWrong : ChangeSpec := { name := "weekDays", fn := fun _ => fun
  | [d] => { results := [.lit (.bool false)], args := [d] }
  | _ => none }
def WeekDaysWrongFalsely : Prop := weekDaysRow.holds Try.pinned (OpenSpec.ofChange weekDaysWrong)

/- THE SECOND FORM. 'bulk': how many values and letters a reading holds, each counted each time it is reached (what is shared counts as often as it is met; a slice's spare places count too). A statement '..UptoSaid' is the law's where the arguments, and the package variables that the reading takes, are together of bulk at most 1048576: NARROWER than '..Said'. Prove '..Said' where nothing that the law and all that it calls make is longer than what came in: it says more and counts as full. Else prove '..UptoSaid'. A law counts once. -/
mutual
def uptoBulk {H : Type} : DataW H → Nat
  | .lit (.string bytes) => bytes.length + 1
  | .lit _ => 1
  | .nil => 1
  | .ptr d => uptoBulk d + 1
  | .slice elems spare => uptoBulkAll elems + uptoBulkAll spare + 1
  | .agg parts => uptoBulkAll parts + 1
  | .iface _ d => uptoBulk d + 1
  | .map entries => uptoBulkEntries entries + 1
  | .held _ => 1
def uptoBulkAll {H : Type} : List (DataW H) → Nat
  | [] => 0
  | d :: r => uptoBulk d + uptoBulkAll r
def uptoBulkEntries {H : Type} : List (Lit × DataW H) → Nat
  | [] => 0
  | x :: r => uptoBulkEntry x + uptoBulkEntries r
def uptoBulkEntry {H : Type} : Lit × DataW H → Nat
  | (.string bytes, d) => bytes.length + uptoBulk d + 1
  | (_, d) => uptoBulk d + 1
 end
def uptoSmall : (H : Type) → List (DataW H) → Bool := fun _ ds => decide (uptoBulkAll ds ≤ 1048576)
def OpenSpec.upto (s : _root_.Go.ChangeSpec) : _root_.Go.OpenSpec := { _root_.Go.OpenSpec.ofChange s with cond := some uptoSmall }

/-- 'dayshiftlaw02.WeekNths', WHERE WHAT IT READS IS OF BULK AT MOST 1048576: true; the input reads as it did. -/
def weekNthsUptoRow : OpenClaim := { program := "ytjfghphblgkoiaa", sum := "d51219847d734250000510c8dbaf18aab2df5978e7ca5192606a6f1524ebe87d", func := "dayshift/dayshiftlaw02.WeekNths", spec := "weekNths", apart := false, narrowed := true }
def WeekNthsUptoSaid : Prop := weekNthsUptoRow.holds Try.pinned (OpenSpec.upto weekNthsSpec)

/-- 'dayshiftlaw02.WeekOrder', WHERE WHAT IT READS IS OF BULK AT MOST 1048576: true; the input reads as it did. -/
def weekOrderUptoRow : OpenClaim := { program := "ytjfghphblgkoiaa", sum := "d51219847d734250000510c8dbaf18aab2df5978e7ca5192606a6f1524ebe87d", func := "dayshift/dayshiftlaw02.WeekOrder", spec := "weekOrder", apart := false, narrowed := true }
def WeekOrderUptoSaid : Prop := weekOrderUptoRow.holds Try.pinned (OpenSpec.upto weekOrderSpec)

/-- 'dayshiftlaw02.WeekRuns', WHERE WHAT IT READS IS OF BULK AT MOST 1048576: true; the input reads as it did. -/
def weekRunsUptoRow : OpenClaim := { program := "ytjfghphblgkoiaa", sum := "d51219847d734250000510c8dbaf18aab2df5978e7ca5192606a6f1524ebe87d", func := "dayshift/dayshiftlaw02.WeekRuns", spec := "weekRuns", apart := false, narrowed := true }
def WeekRunsUptoSaid : Prop := weekRunsUptoRow.holds Try.pinned (OpenSpec.upto weekRunsSpec)

/-- 'dayshiftlaw02.WeekEnds', WHERE WHAT IT READS IS OF BULK AT MOST 1048576: true; the input reads as it did. -/
def weekEndsUptoRow : OpenClaim := { program := "ytjfghphblgkoiaa", sum := "d51219847d734250000510c8dbaf18aab2df5978e7ca5192606a6f1524ebe87d", func := "dayshift/dayshiftlaw02.WeekEnds", spec := "weekEnds", apart := false, narrowed := true }
def WeekEndsUptoSaid : Prop := weekEndsUptoRow.holds Try.pinned (OpenSpec.upto weekEndsSpec)

/-- 'dayshiftlaw02.WeekTimes', WHERE WHAT IT READS IS OF BULK AT MOST 1048576: true; the input reads as it did. -/
def weekTimesUptoRow : OpenClaim := { program := "ytjfghphblgkoiaa", sum := "d51219847d734250000510c8dbaf18aab2df5978e7ca5192606a6f1524ebe87d", func := "dayshift/dayshiftlaw02.WeekTimes", spec := "weekTimes", apart := false, narrowed := true }
def WeekTimesUptoSaid : Prop := weekTimesUptoRow.holds Try.pinned (OpenSpec.upto weekTimesSpec)

/-- 'dayshiftlaw02.WeekClocks', WHERE WHAT IT READS IS OF BULK AT MOST 1048576: true; the input reads as it did. -/
def weekClocksUptoRow : OpenClaim := { program := "ytjfghphblgkoiaa", sum := "d51219847d734250000510c8dbaf18aab2df5978e7ca5192606a6f1524ebe87d", func := "dayshift/dayshiftlaw02.WeekClocks", spec := "weekClocks", apart := false, narrowed := true }
def WeekClocksUptoSaid : Prop := weekClocksUptoRow.holds Try.pinned (OpenSpec.upto weekClocksSpec)

/-- 'dayshiftlaw02.WeekDays', WHERE WHAT IT READS IS OF BULK AT MOST 1048576: true; the input reads as it did. -/
def weekDaysUptoRow : OpenClaim := { program := "ytjfghphblgkoiaa", sum := "d51219847d734250000510c8dbaf18aab2df5978e7ca5192606a6f1524ebe87d", func := "dayshift/dayshiftlaw02.WeekDays", spec := "weekDays", apart := false, narrowed := true }
def WeekDaysUptoSaid : Prop := weekDaysUptoRow.holds Try.pinned (OpenSpec.upto weekDaysSpec)

end Rows
end Go.Proofs.Ytjfghphblgkoiaa
