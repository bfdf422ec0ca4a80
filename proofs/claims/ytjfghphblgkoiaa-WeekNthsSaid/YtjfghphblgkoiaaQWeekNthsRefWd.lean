/-
  What the reference's weekday comes to. No conditions beyond those that each theorem names.
-/
import Derived.Test.YtjfghphblgkoiaaQWeekNthsRefRight
namespace Go.Proofs.Ytjfghphblgkoiaa.QWeekNths
open Go.RowKit Go.Proofs.Ytjfghphblgkoiaa.PWeekNths Go.Proofs.YtjfghphblgkoiaaW.PrintWords Go.Proofs.YtjfghphblgkoiaaW.PrintLast Go.Proofs.Ytjfghphblgkoiaa.MDate
set_option linter.unusedVariables false
set_option linter.unusedSimpArgs false

theorem RWeekday_eq (n : Int) : dayshiftref01_Weekday.f n = some (weekday n) := by
  unfold dayshiftref01_Weekday.f weekday
  rw [RRightW_eq, Option.bind_some]
  by_cases h : 1 ≤ n ∧ n ≤ 3652059
  · rw [if_pos h, show rightB n = true from by simp [rightB, h.1, h.2], if_pos rfl, wrap64_id (by omega) (by omega), Int.tmod_eq_emod_of_nonneg (by omega)]
  · rw [if_neg h, show rightB n = false from by rw [rightB]; simp; omega]
    rfl
end Go.Proofs.Ytjfghphblgkoiaa.QWeekNths
