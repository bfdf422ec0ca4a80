/-
  The later of two clocks counts to no earlier day, and a clock a day later to the next one: for every input and without a condition.
-/
import Derived.Test.YtjfghphblgkoiaaQWeekOrderDate
namespace Go.Proofs.Ytjfghphblgkoiaa.Pure
open Go.RowKit Go.Proofs.Ytjfghphblgkoiaa.PWeekOrder Go.Proofs.Ytjfghphblgkoiaa.QWeekOrder Go.Proofs.YtjfghphblgkoiaaW.PrintWords Go.Proofs.YtjfghphblgkoiaaW.PrintLast Go.Proofs.Ytjfghphblgkoiaa.MDate

theorem wright_eq (m : Int) : week_right.f m = some (decide (0 ≤ m) && decide (m < 1440)) := by
  unfold week_right.f
  by_cases h : 0 ≤ m
  · have : m ≥ 0 := h
    simp [h]
  · have : ¬ m ≥ 0 := h
    simp [h]
/-- The day that a clock counts to. -/
def orderOf (c b : Int) : Int × Int := if 0 ≤ b ∧ b < 1440 ∧ 1440 + b ≤ c ∧ c ≤ 5258966399 then ((c - b) / 1440, 0) else (0, 6)
theorem Order_eq (c b : Int) (hb : -9223372036854775808 ≤ b) : week_Order.f c b = some (orderOf c b) := by
  unfold week_Order.f orderOf
  rw [wright_eq, Option.bind_some]
  by_cases h : 0 ≤ b ∧ b < 1440
  · rw [show (decide (0 ≤ b) && decide (b < 1440)) = true from by simp [h.1, h.2], if_pos rfl]
    by_cases c1 : c > 5258966399
    · rw [if_pos c1, if_neg (by omega)]
    rw [if_neg c1, show wrap64 (1440 + b) = 1440 + b from wrap64_id (by omega) (by omega)]
    by_cases c2 : c < 1440 + b
    · rw [if_pos c2, if_neg (by omega)]
    rw [if_neg c2, if_pos (by omega), show wrap64 (c - b) = c - b from wrap64_id (by omega) (by omega), Int.tdiv_eq_ediv_of_nonneg (by omega), wrap64_id (by omega) (by omega)]
  · rw [show (decide (0 ≤ b) && decide (b < 1440)) = false from by rw [← Bool.not_eq_true]; simp; omega, if_neg (by decide), if_neg (by omega)]
theorem WeekOrder : dayshiftlaw02_WeekOrder.Pure := by
  intro a b g ha hb hg
  have hg' := (wf64 hg).1
  have ha' := wf64 ha
  refine ⟨102, ?_⟩
  have hk : dayshiftlaw02_known.f 100 = some true := known_ok 100 (by omega)
  have hk1 : dayshiftlaw02_known.f 101 = some true := known_ok 101 (by omega)
  have hk2 : dayshiftlaw02_known.f 102 = some true := known_ok 102 (by omega)
  unfold dayshiftlaw02_WeekOrder.f
  rw [Order_eq a g hg', Order_eq b g hg']
  simp only [Option.bind_some]
  by_cases h1 : 0 ≤ g ∧ g < 1440 ∧ 1440 + g ≤ a ∧ a ≤ 5258966399
  · rw [show orderOf a g = ((a - g) / 1440, 0) from by unfold orderOf; rw [if_pos h1]]
    simp only [if_true]
    by_cases h2 : 0 ≤ g ∧ g < 1440 ∧ 1440 + g ≤ b ∧ b ≤ 5258966399
    · rw [show orderOf b g = ((b - g) / 1440, 0) from by unfold orderOf; rw [if_pos h2]]
      simp only [dayshiftlaw02_WeekOrder.j0, show ((0 : Int) != 0) = false from rfl, Bool.false_eq_true, if_false]
      have fin : dayshiftlaw02_WeekOrder.j1 101 a g ((a - g) / 1440) false = some true := by
        simp only [dayshiftlaw02_WeekOrder.j1, Bool.false_eq_true, if_false]
        rw [show wrap64 (a + 1440) = a + 1440 from wrap64_id (by omega) (by omega), Order_eq _ g hg', Option.bind_some, show wrap64 ((a - g) / 1440 + 1) = (a - g) / 1440 + 1 from wrap64_id (by omega) (by omega)]
        by_cases h3 : 0 ≤ g ∧ g < 1440 ∧ 1440 + g ≤ a + 1440 ∧ a + 1440 ≤ 5258966399
        · rw [show orderOf (a + 1440) g = ((a + 1440 - g) / 1440, 0) from by unfold orderOf; rw [if_pos h3]]
          rw [if_pos rfl, if_pos (by simp only; omega), hk]
          rfl
        · rw [show orderOf (a + 1440) g = (0, 6) from by unfold orderOf; rw [if_neg h3]]
          rw [if_neg (by decide), hk]
          rfl
      by_cases c1 : a ≤ b
      · rw [if_pos c1, show decide ((a - g) / 1440 > (b - g) / 1440) = false from by simp; omega]
        exact fin
      · rw [if_neg c1]
        exact fin
    · rw [show orderOf b g = (0, 6) from by unfold orderOf; rw [if_neg h2]]
      simp [dayshiftlaw02_WeekOrder.j0, hk1]
  · rw [show orderOf a g = (0, 6) from by unfold orderOf; rw [if_neg h1]]
    simp [dayshiftlaw02_WeekOrder.j0, hk1]
end Go.Proofs.Ytjfghphblgkoiaa.Pure
