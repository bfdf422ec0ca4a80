/-
  No cell of these rows narrows 'for every input' (looked for: loops, veiled, ifaces, maps, wideKeys, modest, calm, conditions, laid).
  DERIVED. THE GIVEN ROWS OF THIS SEAT. 5 by the template 'for every input the law returns true; each argument reads behind the call as it read before'; 0 by the template 'total and deterministic' (their statements: YtgdnljhndjlefaaTotals.lean).
  GIVEN WITH THE SEED: the statements are not yours to turn. If you find one false, say at which input.
  Laid BY PROGRAM, IN A SANDBOX (cutbox-rows.mjs): the forced cells as the released guide's own fill.sh prints them over the translation 014783c022bdd339… (all of the seat's roots in one cut). By AI agents, Wed Nov 11 2026. No macro, syntax, notation, axiom, sorry.
-/
import Derived.Test.YtgdnljhndjlefaaChecked
import GoSem.Claim
import GoSem.ClaimJoined
import GoSem.ClaimMapViews
import Derived.JoinedTies
import Derived.KernelRfl
namespace Go.Proofs.Ytgdnljhndjlefaa
/- THE CELL 'sum', in the pinned program and in every row, IS THE sha256 OF THE DUMP (.gsa) THAT YtgdnljhndjlefaaProg.lean LOADS. Nothing in Lean hashes anything: it is a label: what it is worth is what the hold of that sum in a sandbox is worth. -/
noncomputable def Try.pinned : Pinned := { name := "ytgdnljhndjlefaa", sum := "014783c022bdd339e0c85d9f7719939d5636364bd5d819e8b076e2b39756fc4c", checked := Try.checked }
namespace Rows
def none {H : Type} : Left H := { results := [], args := [] }

/-- 'dayshiftlaw14.NeedFits': WHATEVER THE INPUT: true; the input reads as it did. -/
def needFitsSpec : ChangeSpec := { name := "needFits", fn := fun _ => fun
  | [d1, d2, d3, d4] => { results := [.lit (.bool true)], args := [d1, d2, d3, d4] }
  | _ => none }
def needFitsRow : OpenClaim := { program := "ytgdnljhndjlefaa", sum := "014783c022bdd339e0c85d9f7719939d5636364bd5d819e8b076e2b39756fc4c", func := "dayshift/dayshiftlaw14.NeedFits", spec := "needFits", inPlace := ["internal/abi.NoEscape", "internal/bytealg.MakeNoZero"], unfollowed := true, recurses := true, plainKeys := false, apart := false }
def NeedFitsSaid : Prop := needFitsRow.holds Try.pinned (OpenSpec.ofChange needFitsSpec)

/-- ITS FALSE NEIGHBOUR: 'it returns false'. Refute it at one input. -/
def needFitsWrong : ChangeSpec := { name := "needFits", fn := fun _ => fun
  | [d1, d2, d3, d4] => { results := [.lit (.bool false)], args := [d1, d2, d3, d4] }
  | _ => none }
def NeedFitsWrongFalsely : Prop := needFitsRow.holds Try.pinned (OpenSpec.ofChange needFitsWrong)

/-- 'dayshiftlaw14.NeedBoth': WHATEVER THE INPUT: true; the input reads as it did. -/
def needBothSpec : ChangeSpec := { name := "needBoth", fn := fun _ => fun
  | [d1, d2, d3] => { results := [.lit (.bool true)], args := [d1, d2, d3] }
  | _ => none }
def needBothRow : OpenClaim := { program := "ytgdnljhndjlefaa", sum := "014783c022bdd339e0c85d9f7719939d5636364bd5d819e8b076e2b39756fc4c", func := "dayshift/dayshiftlaw14.NeedBoth", spec := "needBoth", inPlace := ["internal/abi.NoEscape", "internal/bytealg.MakeNoZero"], unfollowed := true, recurses := true, plainKeys := false, apart := false }
def NeedBothSaid : Prop := needBothRow.holds Try.pinned (OpenSpec.ofChange needBothSpec)

/-- ITS FALSE NEIGHBOUR: 'it returns false'. Refute it at one input. -/
def needBothWrong : ChangeSpec := { name := "needBoth", fn := fun _ => fun
  | [d1, d2, d3] => { results := [.lit (.bool false)], args := [d1, d2, d3] }
  | _ => none }
def NeedBothWrongFalsely : Prop := needBothRow.holds Try.pinned (OpenSpec.ofChange needBothWrong)

/-- 'dayshiftlaw14.NeedHeld': WHATEVER THE INPUT: true; the input reads as it did. -/
def needHeldSpec : ChangeSpec := { name := "needHeld", fn := fun _ => fun
  | [d1, d2, d3] => { results := [.lit (.bool true)], args := [d1, d2, d3] }
  | _ => none }
def needHeldRow : OpenClaim := { program := "ytgdnljhndjlefaa", sum := "014783c022bdd339e0c85d9f7719939d5636364bd5d819e8b076e2b39756fc4c", func := "dayshift/dayshiftlaw14.NeedHeld", spec := "needHeld", inPlace := ["internal/abi.NoEscape", "internal/bytealg.MakeNoZero"], unfollowed := true, recurses := true, plainKeys := false, apart := false }
def NeedHeldSaid : Prop := needHeldRow.holds Try.pinned (OpenSpec.ofChange needHeldSpec)

/-- ITS FALSE NEIGHBOUR: 'it returns false'. Refute it at one input. -/
def needHeldWrong : ChangeSpec := { name := "needHeld", fn := fun _ => fun
  | [d1, d2, d3] => { results := [.lit (.bool false)], args := [d1, d2, d3] }
  | _ => none }
def NeedHeldWrongFalsely : Prop := needHeldRow.holds Try.pinned (OpenSpec.ofChange needHeldWrong)

/-- 'dayshiftlaw14.NeedSorted': WHATEVER THE INPUT: true; the input reads as it did. -/
def needSortedSpec : ChangeSpec := { name := "needSorted", fn := fun _ => fun
  | [d1, d2] => { results := [.lit (.bool true)], args := [d1, d2] }
  | _ => none }
def needSortedRow : OpenClaim := { program := "ytgdnljhndjlefaa", sum := "014783c022bdd339e0c85d9f7719939d5636364bd5d819e8b076e2b39756fc4c", func := "dayshift/dayshiftlaw14.NeedSorted", spec := "needSorted", inPlace := ["internal/abi.NoEscape", "internal/bytealg.MakeNoZero"], unfollowed := true, recurses := true, plainKeys := false, apart := false }
def NeedSortedSaid : Prop := needSortedRow.holds Try.pinned (OpenSpec.ofChange needSortedSpec)

/-- ITS FALSE NEIGHBOUR: 'it returns false'. Refute it at one input. -/
def needSortedWrong : ChangeSpec := { name := "needSorted", fn := fun _ => fun
  | [d1, d2] => { results := [.lit (.bool false)], args := [d1, d2] }
  | _ => none }
def NeedSortedWrongFalsely : Prop := needSortedRow.holds Try.pinned (OpenSpec.ofChange needSortedWrong)

/-- 'dayshiftlaw14.NeedTexts': WHATEVER THE INPUT: true; the input reads as it did. -/
def needTextsSpec : ChangeSpec := { name := "needTexts", fn := fun _ => fun
  | [d1, d2, d3] => { results := [.lit (.bool true)], args := [d1, d2, d3] }
  | _ => none }
def needTextsRow : OpenClaim := { program := "ytgdnljhndjlefaa", sum := "014783c022bdd339e0c85d9f7719939d5636364bd5d819e8b076e2b39756fc4c", func := "dayshift/dayshiftlaw14.NeedTexts", spec := "needTexts", inPlace := ["internal/abi.NoEscape", "internal/bytealg.MakeNoZero"], unfollowed := true, recurses := true, plainKeys := false, apart := false }
def NeedTextsSaid : Prop := needTextsRow.holds Try.pinned (OpenSpec.ofChange needTextsSpec)

/-- ITS FALSE NEIGHBOUR: 'it returns false'. Refute it at one input. -/
def needTextsWrong : ChangeSpec := { name := "needTexts", fn := fun _ => fun
  | [d1, d2, d3] => { results := [.lit (.bool false)], args := [d1, d2, d3] }
  | _ => none }
def NeedTextsWrongFalsely : Prop := needTextsRow.holds Try.pinned (OpenSpec.ofChange needTextsWrong)

/- THE SECOND FORM. 'bulk': how many values and letters a reading holds, each counted each time it is reached (what is shared counts as often as it is met; a slice's spare places count too). A statement '..UptoSaid' is the law's where the arguments, and the package variables that the reading takes, are together of bulk at most 1048576: NARROWER than '..Said'. Prove '..Said' where nothing that the law and all that it calls make is longer than what came in: it says more and counts as full. Else prove '..UptoSaid'. A law counts once. -/
mutual
def uptoBulk {H : Type} : DataW H → Nat
  | .lit (.string bytes) => bytes.length + 1
  | .lit _ => 1
  | .nil => 1
  | .ptr d => uptoBulk d + 1
  | .slice elems spare => uptoBulkAll elems + uptoBulkAll spare + 1
  | .agg parts => uptoBulkAll parts + 1
  | .iface _ d => uptoBulk d + 1
  | .map entries => uptoBulkEntries entries + 1
  | .held _ => 1
def uptoBulkAll {H : Type} : List (DataW H) → Nat
  | [] => 0
  | d :: r => uptoBulk d + uptoBulkAll r
def uptoBulkEntries {H : Type} : List (Lit × DataW H) → Nat
  | [] => 0
  | x :: r => uptoBulkEntry x + uptoBulkEntries r
def uptoBulkEntry {H : Type} : Lit × DataW H → Nat
  | (.string bytes, d) => bytes.length + uptoBulk d + 1
  | (_, d) => uptoBulk d + 1
 end
def uptoSmall : (H : Type) → List (DataW H) → Bool := fun _ ds => decide (uptoBulkAll ds ≤ 1048576)
def OpenSpec.upto (s : _root_.Go.ChangeSpec) : _root_.Go.OpenSpec := { _root_.Go.OpenSpec.ofChange s with cond := some uptoSmall }

/-- 'dayshiftlaw14.NeedFits', WHERE WHAT IT READS IS OF BULK AT MOST 1048576: true; the input reads as it did. -/
def needFitsUptoRow : OpenClaim := { program := "ytgdnljhndjlefaa", sum := "014783c022bdd339e0c85d9f7719939d5636364bd5d819e8b076e2b39756fc4c", func := "dayshift/dayshiftlaw14.NeedFits", spec := "needFits", inPlace := ["internal/abi.NoEscape", "internal/bytealg.MakeNoZero"], unfollowed := true, recurses := true, plainKeys := false, apart := false, narrowed := true }
def NeedFitsUptoSaid : Prop := needFitsUptoRow.holds Try.pinned (OpenSpec.upto needFitsSpec)

/-- 'dayshiftlaw14.NeedBoth', WHERE WHAT IT READS IS OF BULK AT MOST 1048576: true; the input reads as it did. -/
def needBothUptoRow : OpenClaim := { program := "ytgdnljhndjlefaa", sum := "014783c022bdd339e0c85d9f7719939d5636364bd5d819e8b076e2b39756fc4c", func := "dayshift/dayshiftlaw14.NeedBoth", spec := "needBoth", inPlace := ["internal/abi.NoEscape", "internal/bytealg.MakeNoZero"], unfollowed := true, recurses := true, plainKeys := false, apart := false, narrowed := true }
def NeedBothUptoSaid : Prop := needBothUptoRow.holds Try.pinned (OpenSpec.upto needBothSpec)

/-- 'dayshiftlaw14.NeedHeld', WHERE WHAT IT READS IS OF BULK AT MOST 1048576: true; the input reads as it did. -/
def needHeldUptoRow : OpenClaim := { program := "ytgdnljhndjlefaa", sum := "014783c022bdd339e0c85d9f7719939d5636364bd5d819e8b076e2b39756fc4c", func := "dayshift/dayshiftlaw14.NeedHeld", spec := "needHeld", inPlace := ["internal/abi.NoEscape", "internal/bytealg.MakeNoZero"], unfollowed := true, recurses := true, plainKeys := false, apart := false, narrowed := true }
def NeedHeldUptoSaid : Prop := needHeldUptoRow.holds Try.pinned (OpenSpec.upto needHeldSpec)

/-- 'dayshiftlaw14.NeedSorted', WHERE WHAT IT READS IS OF BULK AT MOST 1048576: true; the input reads as it did. -/
def needSortedUptoRow : OpenClaim := { program := "ytgdnljhndjlefaa", sum := "014783c022bdd339e0c85d9f7719939d5636364bd5d819e8b076e2b39756fc4c", func := "dayshift/dayshiftlaw14.NeedSorted", spec := "needSorted", inPlace := ["internal/abi.NoEscape", "internal/bytealg.MakeNoZero"], unfollowed := true, recurses := true, plainKeys := false, apart := false, narrowed := true }
def NeedSortedUptoSaid : Prop := needSortedUptoRow.holds Try.pinned (OpenSpec.upto needSortedSpec)

/-- 'dayshiftlaw14.NeedTexts', WHERE WHAT IT READS IS OF BULK AT MOST 1048576: true; the input reads as it did. -/
def needTextsUptoRow : OpenClaim := { program := "ytgdnljhndjlefaa", sum := "014783c022bdd339e0c85d9f7719939d5636364bd5d819e8b076e2b39756fc4c", func := "dayshift/dayshiftlaw14.NeedTexts", spec := "needTexts", inPlace := ["internal/abi.NoEscape", "internal/bytealg.MakeNoZero"], unfollowed := true, recurses := true, plainKeys := false, apart := false, narrowed := true }
def NeedTextsUptoSaid : Prop := needTextsUptoRow.holds Try.pinned (OpenSpec.upto needTextsSpec)

end Rows
end Go.Proofs.Ytgdnljhndjlefaa
