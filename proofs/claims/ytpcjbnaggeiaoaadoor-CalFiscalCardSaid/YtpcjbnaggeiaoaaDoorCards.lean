/-
  DERIVED. GIVEN WITH THE SEED: THE CARDS: each row of YtpcjbnaggeiaoaaDoorRows.lean that lists a variable, with what it lists TIED to the program's text (the seventh form; the later family's looks); each row that meets fmt, with fmt's text TOLD by the authors' own Lean function (tested against real Go, not proved from fmt's source: count such statements apart). THE CARD IS WHAT COUNTS. Prove the row's statement (the work); the ties are given (YtpcjbnaggeiaoaaDoorTie.lean); close each card by the builder's one call (the guide's Derived/Test/ToyasCard.lean, 'card_holds'). Laid BY PROGRAM, IN A SANDBOX (cutbox-door.mjs). By AI agents, Wed Nov 11 2026. No macro, syntax, notation, axiom, sorry.
-/
import Derived.Test.YtpcjbnaggeiaoaaDoorRows
import GoSem.ClaimSeven
namespace Go.Proofs.YtpcjbnaggeiaoaaDoor
namespace Rows

/-- THE TIED CARD OF 'dayshiftlaw06.CalSets'. -/
def calSetsCard : Claim7 := { stood := { row := calSetsRow, standIns := [], harness := (true, "cd427d0568e9d2d7882872570734e521957893443f8b472e379c1b5dcab46423"), looks := false }, kinds := [], alts := [], laidByText := true, laidKinds := [.data], laidTests := true, laidLooks := .later }
def CalSetsCardSaid : Prop := Claim7.holds Tryd.pinned (.plain (OpenSpec.ofChange calSetsSpec)) calSetsCard

/-- THE TIED CARD OF 'dayshiftlaw06.CalFiscal'. -/
def calFiscalCard : Claim7 := { stood := { row := calFiscalRow, standIns := [], harness := (true, "cd427d0568e9d2d7882872570734e521957893443f8b472e379c1b5dcab46423"), looks := false }, kinds := [], alts := [], laidByText := true, laidKinds := [.data], laidTests := true, laidLooks := .later }
def CalFiscalCardSaid : Prop := Claim7.holds Tryd.pinned (.plain (OpenSpec.ofChange calFiscalSpec)) calFiscalCard

/-- THE TIED CARD OF 'dayshiftlaw06.CalAgain'. -/
def calAgainCard : Claim7 := { stood := { row := calAgainRow, standIns := [], harness := (true, "cd427d0568e9d2d7882872570734e521957893443f8b472e379c1b5dcab46423"), looks := false }, kinds := [], alts := [], laidByText := true, laidKinds := [.data], laidTests := true, laidLooks := .later }
def CalAgainCardSaid : Prop := Claim7.holds Tryd.pinned (.plain (OpenSpec.ofChange calAgainSpec)) calAgainCard

/-- THE TIED CARD OF 'dayshiftlaw06.CalMoved'. -/
def calMovedCard : Claim7 := { stood := { row := calMovedRow, standIns := [], harness := (true, "cd427d0568e9d2d7882872570734e521957893443f8b472e379c1b5dcab46423"), looks := false }, kinds := [], alts := [], laidByText := true, laidKinds := [.data], laidTests := true, laidLooks := .later }
def CalMovedCardSaid : Prop := Claim7.holds Tryd.pinned (.plain (OpenSpec.ofChange calMovedSpec)) calMovedCard

/-- THE SECOND FORM's CARD OF 'dayshiftlaw06.CalSets'. -/
def calSetsUptoCard : Claim7 := { stood := { row := calSetsUptoRow, standIns := [], harness := (true, "cd427d0568e9d2d7882872570734e521957893443f8b472e379c1b5dcab46423"), looks := false }, kinds := [], alts := [], laidByText := true, laidKinds := [.data], laidTests := true, laidLooks := .later }
def CalSetsUptoCardSaid : Prop := Claim7.holds Tryd.pinned (.plain (OpenSpec.upto calSetsSpec)) calSetsUptoCard

/-- THE SECOND FORM's CARD OF 'dayshiftlaw06.CalFiscal'. -/
def calFiscalUptoCard : Claim7 := { stood := { row := calFiscalUptoRow, standIns := [], harness := (true, "cd427d0568e9d2d7882872570734e521957893443f8b472e379c1b5dcab46423"), looks := false }, kinds := [], alts := [], laidByText := true, laidKinds := [.data], laidTests := true, laidLooks := .later }
def CalFiscalUptoCardSaid : Prop := Claim7.holds Tryd.pinned (.plain (OpenSpec.upto calFiscalSpec)) calFiscalUptoCard

/-- THE SECOND FORM's CARD OF 'dayshiftlaw06.CalAgain'. -/
def calAgainUptoCard : Claim7 := { stood := { row := calAgainUptoRow, standIns := [], harness := (true, "cd427d0568e9d2d7882872570734e521957893443f8b472e379c1b5dcab46423"), looks := false }, kinds := [], alts := [], laidByText := true, laidKinds := [.data], laidTests := true, laidLooks := .later }
def CalAgainUptoCardSaid : Prop := Claim7.holds Tryd.pinned (.plain (OpenSpec.upto calAgainSpec)) calAgainUptoCard

/-- THE SECOND FORM's CARD OF 'dayshiftlaw06.CalMoved'. -/
def calMovedUptoCard : Claim7 := { stood := { row := calMovedUptoRow, standIns := [], harness := (true, "cd427d0568e9d2d7882872570734e521957893443f8b472e379c1b5dcab46423"), looks := false }, kinds := [], alts := [], laidByText := true, laidKinds := [.data], laidTests := true, laidLooks := .later }
def CalMovedUptoCardSaid : Prop := Claim7.holds Tryd.pinned (.plain (OpenSpec.upto calMovedSpec)) calMovedUptoCard
end Rows
end Go.Proofs.YtpcjbnaggeiaoaaDoor
