/-
  What holds of weeks' numbers: a day's week, the weekdays of a month, in plain numbers. No conditions beyond those that each theorem names.
-/
import Derived.Test.YtpcjbnaggeiaoaaDoorMDate
namespace Go.Proofs.YtpcjbnaggeiaoaaDoor.MDate
set_option linter.unusedVariables false
set_option linter.unusedSimpArgs false

/-- The Thursday of a day's week. -/
def thu (n : Int) : Int := n - (n - 1) % 7 + 3
/-- The year and the number of a day's week. -/
def IsWeek (n y k : Int) : Prop := 1 ≤ y ∧ y ≤ 9999 ∧ before y < thu n ∧ (thu n ≤ before (y + 1) ∨ y = 9999) ∧ k = (thu n - (before y + 1)) / 7 + 1
theorem IsWeek.uniq {n y k z l : Int} (h : IsWeek n y k) (g : IsWeek n z l) : y = z ∧ k = l := by
  obtain ⟨h1, h2, h3, h4, rfl⟩ := h
  obtain ⟨g1, g2, g3, g4, rfl⟩ := g
  have : y = z := by
    rcases Int.lt_trichotomy y z with hlt | heq | hgt
    · have := before_lt hlt
      omega
    · exact heq
    · have := before_lt hgt
      omega
  subst this
  exact ⟨rfl, rfl⟩
/-- The next week. -/
theorem IsWeek.next {n m y k z l : Int} (h : IsWeek n y k) (g : IsWeek m z l) (hm : thu m = thu n + 7) (hr : thu m ≤ 3652059) : z = y ∧ l = k + 1 ∨ z = y + 1 ∧ l = 1 ∧ 52 ≤ k := by
  obtain ⟨h1, h2, h3, h4, rfl⟩ := h
  obtain ⟨g1, g2, g3, g4, rfl⟩ := g
  have ht := before_top
  have hs := before_succ y
  have hl := lp_bd y
  have h4' : thu n ≤ before (y + 1) := by
    rcases h4 with h4 | rfl
    · exact h4
    · rw [show (9999 : Int) + 1 = 10000 from rfl]; omega
  have g4' : thu m ≤ before (z + 1) := by
    rcases g4 with g4 | rfl
    · exact g4
    · rw [show (9999 : Int) + 1 = 10000 from rfl]; omega
  have hyz : y ≤ z := by
    rcases Int.lt_or_le z y with h | h
    · have := before_lt h
      omega
    · exact h
  rcases Int.lt_or_le y z with h | h
  · have hz : z = y + 1 := by
      rcases Int.lt_or_le (y + 1) z with h' | h'
      · have := before_lt h'
        have hs2 := before_succ (y + 1)
        have hl2 := lp_bd (y + 1)
        omega
      · omega
    subst hz
    right
    refine ⟨rfl, ?_, ?_⟩ <;> omega
  · have : z = y := by omega
    subst this
    left
    exact ⟨rfl, by omega⟩

/-- How far behind the first day of a month, whose weekday is w0, the first one of a weekday stands. -/
def off (wd w0 : Int) : Int := (wd - w0 + 7) % 7
/-- How many of a weekday there are among so many days. -/
def cnt (i o : Int) : Int := (i + 6 - o) / 7
/-- The k-th weekday of a month: its first day, its length, the weekday, the number; and an error's number. -/
def nth (first L wd k : Int) : Int × Int :=
  let o := off wd ((first - 1) % 7)
  let c := cnt L o
  let i := if k < 0 then c + k else k - 1
  if i < 0 then (0, 30) else if i ≥ c then (0, 30) else (first + o + 7 * i, 0)
theorem off_bd (wd w0 : Int) : 0 ≤ off wd w0 ∧ off wd w0 ≤ 6 := by unfold off; omega
end Go.Proofs.YtpcjbnaggeiaoaaDoor.MDate
