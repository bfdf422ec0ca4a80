/-
  For every day the program's date, weekday and range answer as the reference's do, for every input and without a condition.
-/
import Derived.Test.YtkeecpgfpoaplaaQDateDaysRefDate
namespace Go.Proofs.Ytkeecpgfpoaplaa.Pure
open Go.RowKit Go.Proofs.Ytkeecpgfpoaplaa.PDateDays Go.Proofs.Ytkeecpgfpoaplaa.QDateDays Go.Proofs.YtkeecpgfpoaplaaW.PrintWords Go.Proofs.YtkeecpgfpoaplaaW.PrintLast Go.Proofs.Ytkeecpgfpoaplaa.MDate

theorem RWeekday_eq (n : Int) : dayshiftref01_Weekday.f n = some (weekday n) := by
  unfold dayshiftref01_Weekday.f weekday
  rw [RRight_eq, Option.bind_some]
  by_cases h : 1 ≤ n ∧ n ≤ 3652059
  · rw [if_pos h, show rightB n = true from by simp [rightB, h.1, h.2], if_pos rfl, wrap64_id (by omega) (by omega), Int.tmod_eq_emod_of_nonneg (by omega)]
  · rw [if_neg h, show rightB n = false from by rw [rightB]; simp; omega]
    rfl
theorem DateDays : dayshiftlaw01_DateDays.Pure := by
  intro n _
  refine ⟨100, ?_⟩
  unfold dayshiftlaw01_DateDays.f
  have hdates : ∃ r, date_Date.f 100 n = some r ∧ dayshiftref01_Date.f 100 n = some r := by
    by_cases h : 1 ≤ n ∧ n ≤ 3652059
    · obtain ⟨y, m, d, e, hd⟩ := Date_ok 100 (by omega) n h.1 h.2
      obtain ⟨z, p, q, f, hq⟩ := RDate_ok 100 (by omega) n h.1 h.2
      obtain ⟨rfl, rfl, rfl⟩ := hd.uniq hq
      exact ⟨_, e, f⟩
    · exact ⟨_, Date_no 100 n h, RDate_no 100 n h⟩
  obtain ⟨r, e, f⟩ := hdates
  rw [e, f, Weekday_eq, RWeekday_eq, Right_eq, RRight_eq, known_ok 100 (by omega)]
  simp
end Go.Proofs.Ytkeecpgfpoaplaa.Pure
