/-
  DERIVED. GIVEN WITH THE SEED: THE CARDS: each row of YtndjcicjlmmjmaaDoorRows.lean that lists a variable, with what it lists TIED to the program's text (the seventh form; the later family's looks); each row that meets fmt, with fmt's text TOLD by the authors' own Lean function (tested against real Go, not proved from fmt's source: count such statements apart). THE CARD IS WHAT COUNTS. Prove the row's statement (the work); the ties are given (YtndjcicjlmmjmaaDoorTie.lean); close each card by the builder's one call (the guide's Derived/Test/ToyasCard.lean, 'card_holds'). Laid BY PROGRAM, IN A SANDBOX (cutbox-door.mjs). By AI agents, Wed Nov 11 2026. No macro, syntax, notation, axiom, sorry.
-/
import Derived.Test.YtndjcicjlmmjmaaDoorRows
import GoSem.ClaimSeven
namespace Go.Proofs.YtndjcicjlmmjmaaDoor
namespace Rows

/-- THE TIED CARD OF 'dayshiftlaw05.MaskAsks'. -/
def maskAsksCard : Claim7 := { stood := { row := maskAsksRow, standIns := [], harness := (true, "66970762e720a8173fc5c1400e1563169a27a63c6a12096978340e3601586192"), looks := false }, kinds := [], alts := [], laidByText := true, laidKinds := [.data], laidTests := true, laidLooks := .later }
def MaskAsksCardSaid : Prop := Claim7.holds Tryd.pinned (.plain (OpenSpec.ofChange maskAsksSpec)) maskAsksCard

/-- THE TIED CARD OF 'dayshiftlaw05.MaskGoes'. -/
def maskGoesCard : Claim7 := { stood := { row := maskGoesRow, standIns := [], harness := (true, "66970762e720a8173fc5c1400e1563169a27a63c6a12096978340e3601586192"), looks := false }, kinds := [], alts := [], laidByText := true, laidKinds := [.data], laidTests := true, laidLooks := .later }
def MaskGoesCardSaid : Prop := Claim7.holds Tryd.pinned (.plain (OpenSpec.ofChange maskGoesSpec)) maskGoesCard

/-- THE TIED CARD OF 'dayshiftlaw05.MaskWeeks'. -/
def maskWeeksCard : Claim7 := { stood := { row := maskWeeksRow, standIns := [], harness := (true, "66970762e720a8173fc5c1400e1563169a27a63c6a12096978340e3601586192"), looks := false }, kinds := [], alts := [], laidByText := true, laidKinds := [.data], laidTests := true, laidLooks := .later }
def MaskWeeksCardSaid : Prop := Claim7.holds Tryd.pinned (.plain (OpenSpec.ofChange maskWeeksSpec)) maskWeeksCard

/-- THE TIED CARD OF 'dayshiftlaw05.MaskBoth'. -/
def maskBothCard : Claim7 := { stood := { row := maskBothRow, standIns := [], harness := (true, "66970762e720a8173fc5c1400e1563169a27a63c6a12096978340e3601586192"), looks := false }, kinds := [], alts := [], laidByText := true, laidKinds := [.data], laidTests := true, laidLooks := .later }
def MaskBothCardSaid : Prop := Claim7.holds Tryd.pinned (.plain (OpenSpec.ofChange maskBothSpec)) maskBothCard

/-- THE TIED CARD OF 'dayshiftlaw05.MaskNots'. -/
def maskNotsCard : Claim7 := { stood := { row := maskNotsRow, standIns := [], harness := (true, "66970762e720a8173fc5c1400e1563169a27a63c6a12096978340e3601586192"), looks := false }, kinds := [], alts := [], laidByText := true, laidKinds := [.data], laidTests := true, laidLooks := .later }
def MaskNotsCardSaid : Prop := Claim7.holds Tryd.pinned (.plain (OpenSpec.ofChange maskNotsSpec)) maskNotsCard

/-- THE TIED CARD OF 'dayshiftlaw05.MaskMakes'. -/
def maskMakesCard : Claim7 := { stood := { row := maskMakesRow, standIns := [], harness := (true, "66970762e720a8173fc5c1400e1563169a27a63c6a12096978340e3601586192"), looks := false }, kinds := [], alts := [], laidByText := true, laidKinds := [.data], laidTests := true, laidLooks := .later }
def MaskMakesCardSaid : Prop := Claim7.holds Tryd.pinned (.plain (OpenSpec.ofChange maskMakesSpec)) maskMakesCard

/-- THE SECOND FORM's CARD OF 'dayshiftlaw05.MaskAsks'. -/
def maskAsksUptoCard : Claim7 := { stood := { row := maskAsksUptoRow, standIns := [], harness := (true, "66970762e720a8173fc5c1400e1563169a27a63c6a12096978340e3601586192"), looks := false }, kinds := [], alts := [], laidByText := true, laidKinds := [.data], laidTests := true, laidLooks := .later }
def MaskAsksUptoCardSaid : Prop := Claim7.holds Tryd.pinned (.plain (OpenSpec.upto maskAsksSpec)) maskAsksUptoCard

/-- THE SECOND FORM's CARD OF 'dayshiftlaw05.MaskGoes'. -/
def maskGoesUptoCard : Claim7 := { stood := { row := maskGoesUptoRow, standIns := [], harness := (true, "66970762e720a8173fc5c1400e1563169a27a63c6a12096978340e3601586192"), looks := false }, kinds := [], alts := [], laidByText := true, laidKinds := [.data], laidTests := true, laidLooks := .later }
def MaskGoesUptoCardSaid : Prop := Claim7.holds Tryd.pinned (.plain (OpenSpec.upto maskGoesSpec)) maskGoesUptoCard

/-- THE SECOND FORM's CARD OF 'dayshiftlaw05.MaskWeeks'. -/
def maskWeeksUptoCard : Claim7 := { stood := { row := maskWeeksUptoRow, standIns := [], harness := (true, "66970762e720a8173fc5c1400e1563169a27a63c6a12096978340e3601586192"), looks := false }, kinds := [], alts := [], laidByText := true, laidKinds := [.data], laidTests := true, laidLooks := .later }
def MaskWeeksUptoCardSaid : Prop := Claim7.holds Tryd.pinned (.plain (OpenSpec.upto maskWeeksSpec)) maskWeeksUptoCard

/-- THE SECOND FORM's CARD OF 'dayshiftlaw05.MaskBoth'. -/
def maskBothUptoCard : Claim7 := { stood := { row := maskBothUptoRow, standIns := [], harness := (true, "66970762e720a8173fc5c1400e1563169a27a63c6a12096978340e3601586192"), looks := false }, kinds := [], alts := [], laidByText := true, laidKinds := [.data], laidTests := true, laidLooks := .later }
def MaskBothUptoCardSaid : Prop := Claim7.holds Tryd.pinned (.plain (OpenSpec.upto maskBothSpec)) maskBothUptoCard

/-- THE SECOND FORM's CARD OF 'dayshiftlaw05.MaskNots'. -/
def maskNotsUptoCard : Claim7 := { stood := { row := maskNotsUptoRow, standIns := [], harness := (true, "66970762e720a8173fc5c1400e1563169a27a63c6a12096978340e3601586192"), looks := false }, kinds := [], alts := [], laidByText := true, laidKinds := [.data], laidTests := true, laidLooks := .later }
def MaskNotsUptoCardSaid : Prop := Claim7.holds Tryd.pinned (.plain (OpenSpec.upto maskNotsSpec)) maskNotsUptoCard

/-- THE SECOND FORM's CARD OF 'dayshiftlaw05.MaskMakes'. -/
def maskMakesUptoCard : Claim7 := { stood := { row := maskMakesUptoRow, standIns := [], harness := (true, "66970762e720a8173fc5c1400e1563169a27a63c6a12096978340e3601586192"), looks := false }, kinds := [], alts := [], laidByText := true, laidKinds := [.data], laidTests := true, laidLooks := .later }
def MaskMakesUptoCardSaid : Prop := Claim7.holds Tryd.pinned (.plain (OpenSpec.upto maskMakesSpec)) maskMakesUptoCard
end Rows
end Go.Proofs.YtndjcicjlmmjmaaDoor
