/-
  Which days the reference takes. No conditions beyond those that each theorem names.
-/
import Derived.Test.YtjfghphblgkoiaaQWeekNthsDate
namespace Go.Proofs.Ytjfghphblgkoiaa.QWeekNths
open Go.RowKit Go.Proofs.Ytjfghphblgkoiaa.PWeekNths Go.Proofs.YtjfghphblgkoiaaW.PrintWords Go.Proofs.YtjfghphblgkoiaaW.PrintLast Go.Proofs.Ytjfghphblgkoiaa.MDate
set_option linter.unusedVariables false
set_option linter.unusedSimpArgs false

theorem RRightW_eq (n : Int) : dayshiftref01_Right.f n = some (rightB n) := by
  unfold dayshiftref01_Right.f rightB
  by_cases h : n ≥ 1
  · have : (1 ≤ n) := h
    rw [if_pos h]; simp [this]
  · have : ¬ (1 ≤ n) := h
    rw [if_neg h]; simp [this]
end Go.Proofs.Ytjfghphblgkoiaa.QWeekNths
