/-
  NARROWER THAN 'FOR EVERY INPUT', by the rows' own cells (each row's printed sentence says how): MaskAsks: laid · MaskGoes: laid · MaskWeeks: laid · MaskBoth: laid · MaskNots: laid · MaskMakes: laid.
  DERIVED. THE GIVEN ROWS OF THIS SEAT. 6 by the template 'for every input the law returns true; each argument reads behind the call as it read before'; 0 by the template 'total and deterministic' (their statements: YtndjcicjlmmjmaaDoorTotals.lean).
  GIVEN WITH THE SEED: the statements are not yours to turn. If you find one false, say at which input.
  Laid BY PROGRAM, IN A SANDBOX (cutbox-rows.mjs): the forced cells as the released guide's own fill.sh prints them over the translation c6eeb46bf539db71… (all of the seat's roots in one cut). By AI agents, Wed Nov 11 2026. No macro, syntax, notation, axiom, sorry.
-/
import Derived.Test.YtndjcicjlmmjmaaDoorChecked
import GoSem.Claim
import GoSem.ClaimJoined
import GoSem.ClaimMapViews
import Derived.JoinedTies
import Derived.KernelRfl
namespace Go.Proofs.YtndjcicjlmmjmaaDoor
/- THE CELL 'sum', in the pinned program and in every row, IS THE sha256 OF THE DUMP (.gsa) THAT YtndjcicjlmmjmaaDoorProg.lean LOADS. Nothing in Lean hashes anything: it is a label: what it is worth is what the hold of that sum in a sandbox is worth. -/
noncomputable def Tryd.pinned : Pinned := { name := "ytndjcicjlmmjmaadoor", sum := "c6eeb46bf539db717f5b158aa94a0fc2038511e0bb163708d02dee9355ed67f7", checked := Tryd.checked }
namespace Rows
def none {H : Type} : Left H := { results := [], args := [] }

/- WHAT THE LISTED PACKAGE-LEVEL VARIABLES READ AS WHEN THE CALL BEGINS. Each datum BY PROGRAM (the guide's laid-datum.mjs) off the statement by which the dump's own 'gosem.cut.vars' lays the variable. In a bare row this is a premise. The card (YtndjcicjlmmjmaaDoorCards.lean) ties it to the program's text. -/
def laid_math_bits_deBruijn32tab {H : Type} : DataW H := .agg [.lit (.int .u8 0), .lit (.int .u8 1), .lit (.int .u8 28), .lit (.int .u8 2), .lit (.int .u8 29), .lit (.int .u8 14), .lit (.int .u8 24), .lit (.int .u8 3), .lit (.int .u8 30), .lit (.int .u8 22), .lit (.int .u8 20), .lit (.int .u8 15), .lit (.int .u8 25), .lit (.int .u8 17), .lit (.int .u8 4), .lit (.int .u8 8), .lit (.int .u8 31), .lit (.int .u8 27), .lit (.int .u8 13), .lit (.int .u8 23), .lit (.int .u8 21), .lit (.int .u8 19), .lit (.int .u8 16), .lit (.int .u8 7), .lit (.int .u8 26), .lit (.int .u8 12), .lit (.int .u8 18), .lit (.int .u8 6), .lit (.int .u8 11), .lit (.int .u8 5), .lit (.int .u8 10), .lit (.int .u8 9)]

/-- 'dayshiftlaw05.MaskAsks': WHATEVER THE INPUT: true; the input reads as it did. -/
def maskAsksSpec : ChangeSpec := { name := "maskAsks", fn := fun _ => fun
  | [d1, d2, d3] => { results := [.lit (.bool true)], args := [d1, d2, d3] }
  | _ => none }
def maskAsksRow : OpenClaim := { program := "ytndjcicjlmmjmaadoor", sum := "c6eeb46bf539db717f5b158aa94a0fc2038511e0bb163708d02dee9355ed67f7", func := "dayshift/dayshiftlaw05.MaskAsks", spec := "maskAsks", named := ["math/bits.deBruijn32tab"], apart := false, laid := [("math/bits.deBruijn32tab", laid_math_bits_deBruijn32tab)] }
def MaskAsksSaid : Prop := maskAsksRow.holds Tryd.pinned (OpenSpec.ofChange maskAsksSpec)

/-- ITS FALSE NEIGHBOUR: 'it returns false'. Refute it at one input. -/
def maskAsksWrong : ChangeSpec := { name := "maskAsks", fn := fun _ => fun
  | [d1, d2, d3] => { results := [.lit (.bool false)], args := [d1, d2, d3] }
  | _ => none }
def MaskAsksWrongFalsely : Prop := maskAsksRow.holds Tryd.pinned (OpenSpec.ofChange maskAsksWrong)

/-- 'dayshiftlaw05.MaskGoes': WHATEVER THE INPUT: true; the input reads as it did. -/
def maskGoesSpec : ChangeSpec := { name := "maskGoes", fn := fun _ => fun
  | [d] => { results := [.lit (.bool true)], args := [d] }
  | _ => none }
def maskGoesRow : OpenClaim := { program := "ytndjcicjlmmjmaadoor", sum := "c6eeb46bf539db717f5b158aa94a0fc2038511e0bb163708d02dee9355ed67f7", func := "dayshift/dayshiftlaw05.MaskGoes", spec := "maskGoes", named := ["math/bits.deBruijn32tab"], apart := false, laid := [("math/bits.deBruijn32tab", laid_math_bits_deBruijn32tab)] }
def MaskGoesSaid : Prop := maskGoesRow.holds Tryd.pinned (OpenSpec.ofChange maskGoesSpec)

/-- ITS FALSE NEIGHBOUR: 'it returns false'. Refute it at one input. -/
def maskGoesWrong : ChangeSpec := { name := "maskGoes", fn := fun _ => fun
  | [d] => { results := [.lit (.bool false)], args := [d] }
  | _ => none }
def MaskGoesWrongFalsely : Prop := maskGoesRow.holds Tryd.pinned (OpenSpec.ofChange maskGoesWrong)

/-- 'dayshiftlaw05.MaskWeeks': WHATEVER THE INPUT: true; the input reads as it did. -/
def maskWeeksSpec : ChangeSpec := { name := "maskWeeks", fn := fun _ => fun
  | [d1, d2, d3] => { results := [.lit (.bool true)], args := [d1, d2, d3] }
  | _ => none }
def maskWeeksRow : OpenClaim := { program := "ytndjcicjlmmjmaadoor", sum := "c6eeb46bf539db717f5b158aa94a0fc2038511e0bb163708d02dee9355ed67f7", func := "dayshift/dayshiftlaw05.MaskWeeks", spec := "maskWeeks", named := ["math/bits.deBruijn32tab"], apart := false, laid := [("math/bits.deBruijn32tab", laid_math_bits_deBruijn32tab)] }
def MaskWeeksSaid : Prop := maskWeeksRow.holds Tryd.pinned (OpenSpec.ofChange maskWeeksSpec)

/-- ITS FALSE NEIGHBOUR: 'it returns false'. Refute it at one input. -/
def maskWeeksWrong : ChangeSpec := { name := "maskWeeks", fn := fun _ => fun
  | [d1, d2, d3] => { results := [.lit (.bool false)], args := [d1, d2, d3] }
  | _ => none }
def MaskWeeksWrongFalsely : Prop := maskWeeksRow.holds Tryd.pinned (OpenSpec.ofChange maskWeeksWrong)

/-- 'dayshiftlaw05.MaskBoth': WHATEVER THE INPUT: true; the input reads as it did. -/
def maskBothSpec : ChangeSpec := { name := "maskBoth", fn := fun _ => fun
  | [d1, d2, d3] => { results := [.lit (.bool true)], args := [d1, d2, d3] }
  | _ => none }
def maskBothRow : OpenClaim := { program := "ytndjcicjlmmjmaadoor", sum := "c6eeb46bf539db717f5b158aa94a0fc2038511e0bb163708d02dee9355ed67f7", func := "dayshift/dayshiftlaw05.MaskBoth", spec := "maskBoth", named := ["math/bits.deBruijn32tab"], apart := false, laid := [("math/bits.deBruijn32tab", laid_math_bits_deBruijn32tab)] }
def MaskBothSaid : Prop := maskBothRow.holds Tryd.pinned (OpenSpec.ofChange maskBothSpec)

/-- ITS FALSE NEIGHBOUR: 'it returns false'. Refute it at one input. -/
def maskBothWrong : ChangeSpec := { name := "maskBoth", fn := fun _ => fun
  | [d1, d2, d3] => { results := [.lit (.bool false)], args := [d1, d2, d3] }
  | _ => none }
def MaskBothWrongFalsely : Prop := maskBothRow.holds Tryd.pinned (OpenSpec.ofChange maskBothWrong)

/-- 'dayshiftlaw05.MaskNots': WHATEVER THE INPUT: true; the input reads as it did. -/
def maskNotsSpec : ChangeSpec := { name := "maskNots", fn := fun _ => fun
  | [d1, d2] => { results := [.lit (.bool true)], args := [d1, d2] }
  | _ => none }
def maskNotsRow : OpenClaim := { program := "ytndjcicjlmmjmaadoor", sum := "c6eeb46bf539db717f5b158aa94a0fc2038511e0bb163708d02dee9355ed67f7", func := "dayshift/dayshiftlaw05.MaskNots", spec := "maskNots", named := ["math/bits.deBruijn32tab"], apart := false, laid := [("math/bits.deBruijn32tab", laid_math_bits_deBruijn32tab)] }
def MaskNotsSaid : Prop := maskNotsRow.holds Tryd.pinned (OpenSpec.ofChange maskNotsSpec)

/-- ITS FALSE NEIGHBOUR: 'it returns false'. Refute it at one input. -/
def maskNotsWrong : ChangeSpec := { name := "maskNots", fn := fun _ => fun
  | [d1, d2] => { results := [.lit (.bool false)], args := [d1, d2] }
  | _ => none }
def MaskNotsWrongFalsely : Prop := maskNotsRow.holds Tryd.pinned (OpenSpec.ofChange maskNotsWrong)

/-- 'dayshiftlaw05.MaskMakes': WHATEVER THE INPUT: true; the input reads as it did. -/
def maskMakesSpec : ChangeSpec := { name := "maskMakes", fn := fun _ => fun
  | [d1, d2, d3, d4] => { results := [.lit (.bool true)], args := [d1, d2, d3, d4] }
  | _ => none }
def maskMakesRow : OpenClaim := { program := "ytndjcicjlmmjmaadoor", sum := "c6eeb46bf539db717f5b158aa94a0fc2038511e0bb163708d02dee9355ed67f7", func := "dayshift/dayshiftlaw05.MaskMakes", spec := "maskMakes", named := ["math/bits.deBruijn32tab"], apart := false, laid := [("math/bits.deBruijn32tab", laid_math_bits_deBruijn32tab)] }
def MaskMakesSaid : Prop := maskMakesRow.holds Tryd.pinned (OpenSpec.ofChange maskMakesSpec)

/-- ITS FALSE NEIGHBOUR: 'it returns false'. Refute it at one input. -/
def maskMakesWrong : ChangeSpec := { name := "maskMakes", fn := fun _ => fun
  | [d1, d2, d3, d4] => { results := [.lit (.bool false)], args := [d1, d2, d3, d4] }
  | _ => none }
def MaskMakesWrongFalsely : Prop := maskMakesRow.holds Tryd.pinned (OpenSpec.ofChange maskMakesWrong)

/- THE SECOND FORM. 'bulk': how many values and letters a reading holds, each counted each time it is reached (what is shared counts as often as it is met; a slice's spare places count too). A statement '..UptoSaid' is the law's where the arguments, and the package variables that the reading takes, are together of bulk at most 1048576: NARROWER than '..Said'. Prove '..Said' where nothing that the law and all that it calls make is longer than what came in: it says more and counts as full. Else prove '..UptoSaid'. A law counts once. -/
mutual
def uptoBulk {H : Type} : DataW H → Nat
  | .lit (.string bytes) => bytes.length + 1
  | .lit _ => 1
  | .nil => 1
  | .ptr d => uptoBulk d + 1
  | .slice elems spare => uptoBulkAll elems + uptoBulkAll spare + 1
  | .agg parts => uptoBulkAll parts + 1
  | .iface _ d => uptoBulk d + 1
  | .map entries => uptoBulkEntries entries + 1
  | .held _ => 1
def uptoBulkAll {H : Type} : List (DataW H) → Nat
  | [] => 0
  | d :: r => uptoBulk d + uptoBulkAll r
def uptoBulkEntries {H : Type} : List (Lit × DataW H) → Nat
  | [] => 0
  | x :: r => uptoBulkEntry x + uptoBulkEntries r
def uptoBulkEntry {H : Type} : Lit × DataW H → Nat
  | (.string bytes, d) => bytes.length + uptoBulk d + 1
  | (_, d) => uptoBulk d + 1
 end
def uptoSmall : (H : Type) → List (DataW H) → Bool := fun _ ds => decide (uptoBulkAll ds ≤ 1048576)
def OpenSpec.upto (s : _root_.Go.ChangeSpec) : _root_.Go.OpenSpec := { _root_.Go.OpenSpec.ofChange s with cond := some uptoSmall }

/-- 'dayshiftlaw05.MaskAsks', WHERE WHAT IT READS IS OF BULK AT MOST 1048576: true; the input reads as it did. -/
def maskAsksUptoRow : OpenClaim := { program := "ytndjcicjlmmjmaadoor", sum := "c6eeb46bf539db717f5b158aa94a0fc2038511e0bb163708d02dee9355ed67f7", func := "dayshift/dayshiftlaw05.MaskAsks", spec := "maskAsks", named := ["math/bits.deBruijn32tab"], apart := false, laid := [("math/bits.deBruijn32tab", laid_math_bits_deBruijn32tab)], narrowed := true }
def MaskAsksUptoSaid : Prop := maskAsksUptoRow.holds Tryd.pinned (OpenSpec.upto maskAsksSpec)

/-- 'dayshiftlaw05.MaskGoes', WHERE WHAT IT READS IS OF BULK AT MOST 1048576: true; the input reads as it did. -/
def maskGoesUptoRow : OpenClaim := { program := "ytndjcicjlmmjmaadoor", sum := "c6eeb46bf539db717f5b158aa94a0fc2038511e0bb163708d02dee9355ed67f7", func := "dayshift/dayshiftlaw05.MaskGoes", spec := "maskGoes", named := ["math/bits.deBruijn32tab"], apart := false, laid := [("math/bits.deBruijn32tab", laid_math_bits_deBruijn32tab)], narrowed := true }
def MaskGoesUptoSaid : Prop := maskGoesUptoRow.holds Tryd.pinned (OpenSpec.upto maskGoesSpec)

/-- 'dayshiftlaw05.MaskWeeks', WHERE WHAT IT READS IS OF BULK AT MOST 1048576: true; the input reads as it did. -/
def maskWeeksUptoRow : OpenClaim := { program := "ytndjcicjlmmjmaadoor", sum := "c6eeb46bf539db717f5b158aa94a0fc2038511e0bb163708d02dee9355ed67f7", func := "dayshift/dayshiftlaw05.MaskWeeks", spec := "maskWeeks", named := ["math/bits.deBruijn32tab"], apart := false, laid := [("math/bits.deBruijn32tab", laid_math_bits_deBruijn32tab)], narrowed := true }
def MaskWeeksUptoSaid : Prop := maskWeeksUptoRow.holds Tryd.pinned (OpenSpec.upto maskWeeksSpec)

/-- 'dayshiftlaw05.MaskBoth', WHERE WHAT IT READS IS OF BULK AT MOST 1048576: true; the input reads as it did. -/
def maskBothUptoRow : OpenClaim := { program := "ytndjcicjlmmjmaadoor", sum := "c6eeb46bf539db717f5b158aa94a0fc2038511e0bb163708d02dee9355ed67f7", func := "dayshift/dayshiftlaw05.MaskBoth", spec := "maskBoth", named := ["math/bits.deBruijn32tab"], apart := false, laid := [("math/bits.deBruijn32tab", laid_math_bits_deBruijn32tab)], narrowed := true }
def MaskBothUptoSaid : Prop := maskBothUptoRow.holds Tryd.pinned (OpenSpec.upto maskBothSpec)

/-- 'dayshiftlaw05.MaskNots', WHERE WHAT IT READS IS OF BULK AT MOST 1048576: true; the input reads as it did. -/
def maskNotsUptoRow : OpenClaim := { program := "ytndjcicjlmmjmaadoor", sum := "c6eeb46bf539db717f5b158aa94a0fc2038511e0bb163708d02dee9355ed67f7", func := "dayshift/dayshiftlaw05.MaskNots", spec := "maskNots", named := ["math/bits.deBruijn32tab"], apart := false, laid := [("math/bits.deBruijn32tab", laid_math_bits_deBruijn32tab)], narrowed := true }
def MaskNotsUptoSaid : Prop := maskNotsUptoRow.holds Tryd.pinned (OpenSpec.upto maskNotsSpec)

/-- 'dayshiftlaw05.MaskMakes', WHERE WHAT IT READS IS OF BULK AT MOST 1048576: true; the input reads as it did. -/
def maskMakesUptoRow : OpenClaim := { program := "ytndjcicjlmmjmaadoor", sum := "c6eeb46bf539db717f5b158aa94a0fc2038511e0bb163708d02dee9355ed67f7", func := "dayshift/dayshiftlaw05.MaskMakes", spec := "maskMakes", named := ["math/bits.deBruijn32tab"], apart := false, laid := [("math/bits.deBruijn32tab", laid_math_bits_deBruijn32tab)], narrowed := true }
def MaskMakesUptoSaid : Prop := maskMakesUptoRow.holds Tryd.pinned (OpenSpec.upto maskMakesSpec)

end Rows
end Go.Proofs.YtndjcicjlmmjmaaDoor
