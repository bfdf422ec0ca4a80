/-
  No cell of these rows narrows 'for every input' (looked for: loops, veiled, ifaces, maps, wideKeys, modest, calm, conditions, laid).
  DERIVED. THE GIVEN ROWS OF THIS SEAT. 5 by the template 'for every input the law returns true; each argument reads behind the call as it read before'; 0 by the template 'total and deterministic' (their statements: YthneeibphelofaaTotals.lean).
  GIVEN WITH THE SEED: the statements are not yours to turn. If you find one false, say at which input.
  Laid BY PROGRAM, IN A SANDBOX (cutbox-rows.mjs): the forced cells as the released guide's own fill.sh prints them over the translation 7aab35f6cb3d2d37… (all of the seat's roots in one cut). By AI agents, Wed Nov 11 2026. No macro, syntax, notation, axiom, sorry.
-/
import Derived.Test.YthneeibphelofaaChecked
import GoSem.Claim
import GoSem.ClaimJoined
import GoSem.ClaimMapViews
import Derived.JoinedTies
import Derived.KernelRfl
namespace Go.Proofs.Ythneeibphelofaa
/- THE CELL 'sum', in the pinned program and in every row, IS THE sha256 OF THE DUMP (.gsa) THAT YthneeibphelofaaProg.lean LOADS. Nothing in Lean hashes anything: it is a label: what it is worth is what the hold of that sum in a sandbox is worth. -/
noncomputable def Try.pinned : Pinned := { name := "ythneeibphelofaa", sum := "7aab35f6cb3d2d374d911d1b5369b0756310823a9045022e0d1d939e96afd47c", checked := Try.checked }
namespace Rows
def none {H : Type} : Left H := { results := [], args := [] }

/-- 'dayshiftlaw11.CondOrder': WHATEVER THE INPUT: true; the input reads as it did. -/
def condOrderSpec : ChangeSpec := { name := "condOrder", fn := fun _ => fun
  | [d] => { results := [.lit (.bool true)], args := [d] }
  | _ => none }
def condOrderRow : OpenClaim := { program := "ythneeibphelofaa", sum := "7aab35f6cb3d2d374d911d1b5369b0756310823a9045022e0d1d939e96afd47c", func := "dayshift/dayshiftlaw11.CondOrder", spec := "condOrder", unfollowed := true, recurses := true, plainKeys := false, apart := false }
def CondOrderSaid : Prop := condOrderRow.holds Try.pinned (OpenSpec.ofChange condOrderSpec)

/-- ITS FALSE NEIGHBOUR: 'it returns false'. Refute it at one input. -/
def condOrderWrong : ChangeSpec := { name := "condOrder", fn := fun _ => fun
  | [d] => { results := [.lit (.bool false)], args := [d] }
  | _ => none }
def CondOrderWrongFalsely : Prop := condOrderRow.holds Try.pinned (OpenSpec.ofChange condOrderWrong)

/-- 'dayshiftlaw11.CondClean': WHATEVER THE INPUT: true; the input reads as it did. -/
def condCleanSpec : ChangeSpec := { name := "condClean", fn := fun _ => fun
  | [d1, d2] => { results := [.lit (.bool true)], args := [d1, d2] }
  | _ => none }
def condCleanRow : OpenClaim := { program := "ythneeibphelofaa", sum := "7aab35f6cb3d2d374d911d1b5369b0756310823a9045022e0d1d939e96afd47c", func := "dayshift/dayshiftlaw11.CondClean", spec := "condClean", unfollowed := true, recurses := true, plainKeys := false, apart := false }
def CondCleanSaid : Prop := condCleanRow.holds Try.pinned (OpenSpec.ofChange condCleanSpec)

/-- ITS FALSE NEIGHBOUR: 'it returns false'. Refute it at one input. -/
def condCleanWrong : ChangeSpec := { name := "condClean", fn := fun _ => fun
  | [d1, d2] => { results := [.lit (.bool false)], args := [d1, d2] }
  | _ => none }
def CondCleanWrongFalsely : Prop := condCleanRow.holds Try.pinned (OpenSpec.ofChange condCleanWrong)

/-- 'dayshiftlaw11.CondBack': WHATEVER THE INPUT: true; the input reads as it did. -/
def condBackSpec : ChangeSpec := { name := "condBack", fn := fun _ => fun
  | [d1, d2] => { results := [.lit (.bool true)], args := [d1, d2] }
  | _ => none }
def condBackRow : OpenClaim := { program := "ythneeibphelofaa", sum := "7aab35f6cb3d2d374d911d1b5369b0756310823a9045022e0d1d939e96afd47c", func := "dayshift/dayshiftlaw11.CondBack", spec := "condBack", unfollowed := true, recurses := true, plainKeys := false, apart := false }
def CondBackSaid : Prop := condBackRow.holds Try.pinned (OpenSpec.ofChange condBackSpec)

/-- ITS FALSE NEIGHBOUR: 'it returns false'. Refute it at one input. -/
def condBackWrong : ChangeSpec := { name := "condBack", fn := fun _ => fun
  | [d1, d2] => { results := [.lit (.bool false)], args := [d1, d2] }
  | _ => none }
def CondBackWrongFalsely : Prop := condBackRow.holds Try.pinned (OpenSpec.ofChange condBackWrong)

/-- 'dayshiftlaw11.CondPlays': WHATEVER THE INPUT: true; the input reads as it did. -/
def condPlaysSpec : ChangeSpec := { name := "condPlays", fn := fun _ => fun
  | [d1, d2] => { results := [.lit (.bool true)], args := [d1, d2] }
  | _ => none }
def condPlaysRow : OpenClaim := { program := "ythneeibphelofaa", sum := "7aab35f6cb3d2d374d911d1b5369b0756310823a9045022e0d1d939e96afd47c", func := "dayshift/dayshiftlaw11.CondPlays", spec := "condPlays", unfollowed := true, recurses := true, plainKeys := false, apart := false }
def CondPlaysSaid : Prop := condPlaysRow.holds Try.pinned (OpenSpec.ofChange condPlaysSpec)

/-- ITS FALSE NEIGHBOUR: 'it returns false'. Refute it at one input. -/
def condPlaysWrong : ChangeSpec := { name := "condPlays", fn := fun _ => fun
  | [d1, d2] => { results := [.lit (.bool false)], args := [d1, d2] }
  | _ => none }
def CondPlaysWrongFalsely : Prop := condPlaysRow.holds Try.pinned (OpenSpec.ofChange condPlaysWrong)

/-- 'dayshiftlaw11.CondNil': WHATEVER THE INPUT: true; the input reads as it did. -/
def condNilSpec : ChangeSpec := { name := "condNil", fn := fun _ => fun
  | [d] => { results := [.lit (.bool true)], args := [d] }
  | _ => none }
def condNilRow : OpenClaim := { program := "ythneeibphelofaa", sum := "7aab35f6cb3d2d374d911d1b5369b0756310823a9045022e0d1d939e96afd47c", func := "dayshift/dayshiftlaw11.CondNil", spec := "condNil", unfollowed := true, recurses := true, plainKeys := false, apart := false }
def CondNilSaid : Prop := condNilRow.holds Try.pinned (OpenSpec.ofChange condNilSpec)

/-- ITS FALSE NEIGHBOUR: 'it returns false'. Refute it at one input. -/
def condNilWrong : ChangeSpec := { name := "condNil", fn := fun _ => fun
  | [d] => { results := [.lit (.bool false)], args := [d] }
  | _ => none }
def CondNilWrongFalsely : Prop := condNilRow.holds Try.pinned (OpenSpec.ofChange condNilWrong)

/- THE SECOND FORM. 'bulk': how many values and letters a reading holds, each counted each time it is reached (what is shared counts as often as it is met; a slice's spare places count too). A statement '..UptoSaid' is the law's where the arguments, and the package variables that the reading takes, are together of bulk at most 1048576: NARROWER than '..Said'. Prove '..Said' where nothing that the law and all that it calls make is longer than what came in: it says more and counts as full. Else prove '..UptoSaid'. A law counts once. -/
mutual
def uptoBulk {H : Type} : DataW H → Nat
  | .lit (.string bytes) => bytes.length + 1
  | .lit _ => 1
  | .nil => 1
  | .ptr d => uptoBulk d + 1
  | .slice elems spare => uptoBulkAll elems + uptoBulkAll spare + 1
  | .agg parts => uptoBulkAll parts + 1
  | .iface _ d => uptoBulk d + 1
  | .map entries => uptoBulkEntries entries + 1
  | .held _ => 1
def uptoBulkAll {H : Type} : List (DataW H) → Nat
  | [] => 0
  | d :: r => uptoBulk d + uptoBulkAll r
def uptoBulkEntries {H : Type} : List (Lit × DataW H) → Nat
  | [] => 0
  | x :: r => uptoBulkEntry x + uptoBulkEntries r
def uptoBulkEntry {H : Type} : Lit × DataW H → Nat
  | (.string bytes, d) => bytes.length + uptoBulk d + 1
  | (_, d) => uptoBulk d + 1
 end
def uptoSmall : (H : Type) → List (DataW H) → Bool := fun _ ds => decide (uptoBulkAll ds ≤ 1048576)
def OpenSpec.upto (s : _root_.Go.ChangeSpec) : _root_.Go.OpenSpec := { _root_.Go.OpenSpec.ofChange s with cond := some uptoSmall }

/-- 'dayshiftlaw11.CondOrder', WHERE WHAT IT READS IS OF BULK AT MOST 1048576: true; the input reads as it did. -/
def condOrderUptoRow : OpenClaim := { program := "ythneeibphelofaa", sum := "7aab35f6cb3d2d374d911d1b5369b0756310823a9045022e0d1d939e96afd47c", func := "dayshift/dayshiftlaw11.CondOrder", spec := "condOrder", unfollowed := true, recurses := true, plainKeys := false, apart := false, narrowed := true }
def CondOrderUptoSaid : Prop := condOrderUptoRow.holds Try.pinned (OpenSpec.upto condOrderSpec)

/-- 'dayshiftlaw11.CondClean', WHERE WHAT IT READS IS OF BULK AT MOST 1048576: true; the input reads as it did. -/
def condCleanUptoRow : OpenClaim := { program := "ythneeibphelofaa", sum := "7aab35f6cb3d2d374d911d1b5369b0756310823a9045022e0d1d939e96afd47c", func := "dayshift/dayshiftlaw11.CondClean", spec := "condClean", unfollowed := true, recurses := true, plainKeys := false, apart := false, narrowed := true }
def CondCleanUptoSaid : Prop := condCleanUptoRow.holds Try.pinned (OpenSpec.upto condCleanSpec)

/-- 'dayshiftlaw11.CondBack', WHERE WHAT IT READS IS OF BULK AT MOST 1048576: true; the input reads as it did. -/
def condBackUptoRow : OpenClaim := { program := "ythneeibphelofaa", sum := "7aab35f6cb3d2d374d911d1b5369b0756310823a9045022e0d1d939e96afd47c", func := "dayshift/dayshiftlaw11.CondBack", spec := "condBack", unfollowed := true, recurses := true, plainKeys := false, apart := false, narrowed := true }
def CondBackUptoSaid : Prop := condBackUptoRow.holds Try.pinned (OpenSpec.upto condBackSpec)

/-- 'dayshiftlaw11.CondPlays', WHERE WHAT IT READS IS OF BULK AT MOST 1048576: true; the input reads as it did. -/
def condPlaysUptoRow : OpenClaim := { program := "ythneeibphelofaa", sum := "7aab35f6cb3d2d374d911d1b5369b0756310823a9045022e0d1d939e96afd47c", func := "dayshift/dayshiftlaw11.CondPlays", spec := "condPlays", unfollowed := true, recurses := true, plainKeys := false, apart := false, narrowed := true }
def CondPlaysUptoSaid : Prop := condPlaysUptoRow.holds Try.pinned (OpenSpec.upto condPlaysSpec)

/-- 'dayshiftlaw11.CondNil', WHERE WHAT IT READS IS OF BULK AT MOST 1048576: true; the input reads as it did. -/
def condNilUptoRow : OpenClaim := { program := "ythneeibphelofaa", sum := "7aab35f6cb3d2d374d911d1b5369b0756310823a9045022e0d1d939e96afd47c", func := "dayshift/dayshiftlaw11.CondNil", spec := "condNil", unfollowed := true, recurses := true, plainKeys := false, apart := false, narrowed := true }
def CondNilUptoSaid : Prop := condNilUptoRow.holds Try.pinned (OpenSpec.upto condNilSpec)

end Rows
end Go.Proofs.Ythneeibphelofaa
