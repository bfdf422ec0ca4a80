/-
  For every year, month and day the program's leap years, lengths of months and days of dates are the reference's, for every input and without a condition.
-/
import Derived.Test.YtkeecpgfpoaplaaQDateYearsRefDays
namespace Go.Proofs.Ytkeecpgfpoaplaa.Pure
open Go.RowKit Go.Proofs.Ytkeecpgfpoaplaa.PDateYears Go.Proofs.Ytkeecpgfpoaplaa.QDateYears Go.Proofs.YtkeecpgfpoaplaaW.PrintWords Go.Proofs.YtkeecpgfpoaplaaW.PrintLast Go.Proofs.Ytkeecpgfpoaplaa.MDate

theorem DateYears : dayshiftlaw01_DateYears.Pure := by
  intro y m d _ _ hd
  have hd' : d ≤ 9223372036854775807 := by
    simp [Lit.wf] at hd
    omega
  refine ⟨100, ?_⟩
  unfold dayshiftlaw01_DateYears.f
  rw [Days_eq 100 (by omega) y m d hd', RDays_eq 100 (by omega) y m d hd', Leap_eq, RLeap_eq, Len_eq, RLen_eq 100 (by omega), known_ok 100 (by omega)]
  simp
end Go.Proofs.Ytkeecpgfpoaplaa.Pure
