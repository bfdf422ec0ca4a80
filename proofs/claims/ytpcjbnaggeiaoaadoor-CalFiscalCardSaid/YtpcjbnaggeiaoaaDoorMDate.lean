/-
  What holds of the calendar's numbers: leap years, months, days ahead of a year; each date has one day and each day one date. No conditions beyond those that each theorem names.
-/
import Derived.RowKit
namespace Go.Proofs.YtpcjbnaggeiaoaaDoor.MDate
set_option linter.unusedVariables false
set_option linter.unusedSimpArgs false

def leapB (y : Int) : Bool := decide (y % 4 = 0) && (decide (y % 100 ≠ 0) || decide (y % 400 = 0))
def lp (y : Int) : Int := if leapB y = true then 1 else 0
def len (y m : Int) : Int := if m < 1 then 0 else if m > 12 then 0 else if m = 2 then 28 + lp y else if m = 4 ∨ m = 6 ∨ m = 9 ∨ m = 11 then 30 else 31
def cum (y m : Int) : Int := if m ≤ 2 then (367 * m - 362) / 12 else (367 * m - 362) / 12 - 2 + lp y
def before (y : Int) : Int := 365 * (y - 1) + (y - 1) / 4 - (y - 1) / 100 + (y - 1) / 400

theorem lp_cases (y : Int) : (lp y = 1 ∧ leapB y = true) ∨ (lp y = 0 ∧ leapB y = false) := by
  unfold lp
  cases h : leapB y <;> simp
theorem lp_bd (y : Int) : 0 ≤ lp y ∧ lp y ≤ 1 := by rcases lp_cases y with ⟨h, _⟩ | ⟨h, _⟩ <;> omega
theorem leapB_iff (y : Int) : leapB y = true ↔ (y % 4 = 0 ∧ (y % 100 ≠ 0 ∨ y % 400 = 0)) := by
  simp [leapB]
theorem before_succ (y : Int) : before (y + 1) = before y + 365 + lp y := by
  unfold before
  rcases lp_cases y with ⟨h, hl⟩ | ⟨h, hl⟩
  · have := (leapB_iff y).1 hl
    rw [h]
    omega
  · have h2 : ¬ (y % 4 = 0 ∧ (y % 100 ≠ 0 ∨ y % 400 = 0)) := by rw [← leapB_iff, hl]; simp
    rw [h]
    omega
theorem before_mono {a b : Int} (h : a ≤ b) : before a ≤ before b := by unfold before; omega
theorem before_lt {a b : Int} (h : a < b) : before (a + 1) ≤ before b := before_mono (by omega)
theorem before_bd {y : Int} (h1 : 1 ≤ y) (h2 : y ≤ 10000) : 0 ≤ before y ∧ before y ≤ 3652059 := by unfold before; omega
theorem before_top : before 10000 = 3652059 := by decide
theorem months {m : Int} (h1 : 1 ≤ m) (h2 : m ≤ 12) : m = 1 ∨ m = 2 ∨ m = 3 ∨ m = 4 ∨ m = 5 ∨ m = 6 ∨ m = 7 ∨ m = 8 ∨ m = 9 ∨ m = 10 ∨ m = 11 ∨ m = 12 := by omega
theorem cum_succ (y m : Int) (h1 : 1 ≤ m) (h2 : m ≤ 12) : cum y (m + 1) = cum y m + len y m := by
  rcases months h1 h2 with rfl | rfl | rfl | rfl | rfl | rfl | rfl | rfl | rfl | rfl | rfl | rfl <;> simp [cum, len] <;> omega
theorem cum_one (y : Int) : cum y 1 = 0 := by simp [cum]
theorem cum_end (y : Int) : cum y 13 = 365 + lp y := by simp [cum]
theorem len_bd (y m : Int) : 0 ≤ len y m ∧ len y m ≤ 31 := by
  have := lp_bd y
  unfold len
  repeat' split
  all_goals omega
theorem len_pos (y m : Int) (h1 : 1 ≤ m) (h2 : m ≤ 12) : 28 ≤ len y m := by
  have := lp_bd y
  unfold len
  rw [if_neg (by omega), if_neg (by omega)]
  repeat' split
  all_goals omega
theorem len_out (y m : Int) (h : m < 1 ∨ 12 < m) : len y m = 0 := by
  unfold len
  rcases h with h | h
  · rw [if_pos h]
  · rw [if_neg (by omega), if_pos h]
theorem len_range (y m : Int) (h : 1 ≤ len y m) : 1 ≤ m ∧ m ≤ 12 := by
  have h1 : ¬ (m < 1 ∨ 12 < m) := fun h' => by rw [len_out y m h'] at h; omega
  omega
theorem cum_mono (y a b : Int) (ha : 1 ≤ a) (hab : a ≤ b) (hb : b ≤ 13) : cum y a ≤ cum y b := by
  have := lp_bd y
  unfold cum
  repeat' split
  all_goals omega
theorem cum_bd (y m : Int) (h1 : 1 ≤ m) (h2 : m ≤ 13) : 0 ≤ cum y m ∧ cum y m ≤ 366 := by
  have a := cum_mono y 1 m (by omega) h1 h2
  have b := cum_mono y m 13 h1 h2 (by omega)
  have := lp_bd y
  rw [cum_one] at a
  rw [cum_end] at b
  omega

/-- A date of a day. -/
def IsDate (n y m d : Int) : Prop := 1 ≤ y ∧ y ≤ 9999 ∧ 1 ≤ m ∧ m ≤ 12 ∧ 1 ≤ d ∧ d ≤ len y m ∧ n = before y + cum y m + d
theorem IsDate.range {n y m d : Int} (h : IsDate n y m d) : 1 ≤ n ∧ n ≤ 3652059 := by
  obtain ⟨h1, h2, h3, h4, h5, h6, rfl⟩ := h
  have a := cum_succ y m h3 h4
  have b := cum_mono y (m + 1) 13 (by omega) (by omega) (by omega)
  have c := cum_bd y m h3 (by omega)
  have e := before_succ y
  have f := before_mono (show y + 1 ≤ 10000 by omega)
  have g := before_bd (y := y) h1 (by omega)
  rw [before_top] at f
  rw [cum_end] at b
  omega
theorem IsDate.upper {n y m d : Int} (h : IsDate n y m d) : before y < n ∧ n ≤ before (y + 1) := by
  obtain ⟨h1, h2, h3, h4, h5, h6, rfl⟩ := h
  have a := cum_succ y m h3 h4
  have b := cum_mono y (m + 1) 13 (by omega) (by omega) (by omega)
  have c := cum_bd y m h3 (by omega)
  have e := before_succ y
  rw [cum_end] at b
  omega
theorem year_of {n y z : Int} (h : before y < n ∧ n ≤ before (y + 1)) (k : before z < n ∧ n ≤ before (z + 1)) : y = z := by
  rcases Int.lt_trichotomy y z with hlt | heq | hgt
  · have := before_lt hlt; omega
  · exact heq
  · have := before_lt hgt; omega
theorem IsDate.uniq {n y m d z p q : Int} (h : IsDate n y m d) (k : IsDate n z p q) : y = z ∧ m = p ∧ d = q := by
  have hyz : y = z := year_of h.upper k.upper
  subst hyz
  obtain ⟨h1, h2, h3, h4, h5, h6, h7⟩ := h
  obtain ⟨k1, k2, k3, k4, k5, k6, k7⟩ := k
  have hmp : m = p := by
    have a := cum_succ y m h3 h4
    have b := cum_succ y p k3 k4
    rcases Int.lt_trichotomy m p with hlt | heq | hgt
    · have := cum_mono y (m + 1) p (by omega) (by omega) (by omega); omega
    · exact heq
    · have := cum_mono y (p + 1) m (by omega) (by omega) (by omega); omega
  subst hmp
  exact ⟨rfl, rfl, by omega⟩
/-- The day of a date: it, and an error's number. -/
def days (y m d : Int) : Int × Int := if y < 1 then (0, 6) else if y > 9999 then (0, 6) else if d < 1 then (0, 6) else if d > len y m then (0, 6) else (before y + cum y m + d, 0)
theorem days_of {n y m d : Int} (h : IsDate n y m d) : days y m d = (n, 0) := by
  obtain ⟨h1, h2, h3, h4, h5, h6, rfl⟩ := h
  unfold days
  rw [if_neg (by omega), if_neg (by omega), if_neg (by omega), if_neg (by omega)]
theorem days_cases (y m d : Int) : days y m d = (0, 6) ∨ ∃ n, days y m d = (n, 0) ∧ IsDate n y m d := by
  unfold days
  repeat' split
  all_goals first | exact .inl rfl | skip
  have hm := len_range y m (by omega)
  exact .inr ⟨_, rfl, by omega, by omega, by omega, by omega, by omega, by omega, rfl⟩
theorem days_zero {n y m d : Int} (h : days y m d = (n, 0)) : IsDate n y m d := by
  rcases days_cases y m d with e | ⟨n', e, hd⟩
  · rw [e] at h; simp at h
  · rw [e] at h
    simp only [Prod.mk.injEq, and_true] at h
    exact h ▸ hd
theorem IsDate.lt_of_later {n y m d n' z p q : Int} (h : IsDate n y m d) (k : IsDate n' z p q) (hl : y < z ∨ y = z ∧ m < p ∨ y = z ∧ m = p ∧ d < q) : n < n' := by
  rcases hl with hl | ⟨rfl, hl⟩ | ⟨rfl, rfl, hl⟩
  · have a := h.upper
    have b := k.upper
    have := before_lt hl
    omega
  · obtain ⟨h1, h2, h3, h4, h5, h6, rfl⟩ := h
    obtain ⟨k1, k2, k3, k4, k5, k6, rfl⟩ := k
    have a := cum_succ y m h3 h4
    have := cum_mono y (m + 1) p (by omega) (by omega) (by omega)
    omega
  · obtain ⟨h1, h2, h3, h4, h5, h6, rfl⟩ := h
    obtain ⟨k1, k2, k3, k4, k5, k6, rfl⟩ := k
    omega
/-- The year that the program guesses: the day lies in it or in the next one. -/
theorem guess (n : Int) (h1 : 1 ≤ n) (h2 : n ≤ 3652059) : before ((n - 1) * 400 / 146097 + 1) < n ∧ n ≤ before ((n - 1) * 400 / 146097 + 1 + 1 + 1) := by
  unfold before
  omega
theorem guess_bd (n : Int) (h1 : 1 ≤ n) (h2 : n ≤ 3652059) : 0 ≤ (n - 1) * 400 / 146097 ∧ (n - 1) * 400 / 146097 ≤ 9998 := by omega
/-- The year that the reference begins with is not behind the day's. -/
theorem guess2 (n : Int) (h1 : 1 ≤ n) (h2 : n ≤ 3652059) : before (n / 366 + 1) < n := by
  unfold before
  omega
theorem guess2_bd (n : Int) (h1 : 1 ≤ n) (h2 : n ≤ 3652059) : 0 ≤ n / 366 ∧ n / 366 ≤ 9978 := by omega
/-- The next day's date. -/
theorem IsDate.next {n y m d : Int} (h : IsDate n y m d) {p q r : Int} (k : IsDate (n + 1) p q r) :
    p = y ∧ q = m ∧ r = d + 1 ∨ p = y ∧ q = m + 1 ∧ r = 1 ∧ d = len y m ∨ p = y + 1 ∧ q = 1 ∧ r = 1 ∧ m = 12 ∧ d = 31 := by
  have h' := h
  obtain ⟨h1, h2, h3, h4, h5, h6, rfl⟩ := h
  have hr := k.range
  by_cases e : d < len y m
  · have : IsDate (before y + cum y m + d + 1) y m (d + 1) := ⟨h1, h2, h3, h4, by omega, by omega, by omega⟩
    obtain ⟨rfl, rfl, rfl⟩ := this.uniq k
    exact .inl ⟨rfl, rfl, rfl⟩
  · have ed : d = len y m := by omega
    have a := cum_succ y m h3 h4
    by_cases em : m < 12
    · have : IsDate (before y + cum y m + d + 1) y (m + 1) 1 := ⟨h1, h2, by omega, by omega, by omega, by have := len_pos y (m + 1) (by omega) (by omega); omega, by omega⟩
      obtain ⟨rfl, rfl, rfl⟩ := this.uniq k
      exact .inr (.inl ⟨rfl, rfl, rfl, ed⟩)
    · have em : m = 12 := by omega
      subst em
      have b := cum_end y
      rw [show (12 : Int) + 1 = 13 from rfl] at a
      have c := before_succ y
      have hl : len y 12 = 31 := by simp [len]
      have hy : y < 9999 := by
        rcases Int.lt_or_le y 9999 with h | h
        · exact h
        · have : y = 9999 := by omega
          subst this
          have := before_top
          rw [show (9999 : Int) + 1 = 10000 from rfl] at c
          omega
      have c1 := cum_one (y + 1)
      have : IsDate (before y + cum y 12 + d + 1) (y + 1) 1 1 := ⟨by omega, by omega, by omega, by omega, by omega, by have := len_pos (y + 1) 1 (by omega) (by omega); omega, by omega⟩
      obtain ⟨rfl, rfl, rfl⟩ := this.uniq k
      exact .inr (.inr ⟨rfl, rfl, rfl, rfl, by omega⟩)
theorem IsDate.last {n y m d : Int} (h : IsDate n y m d) (k : n = 3652059) : y = 9999 ∧ m = 12 ∧ d = 31 := by
  have hl : len 9999 12 = 31 := by decide
  have : IsDate 3652059 9999 12 31 := ⟨by omega, by omega, by omega, by omega, by omega, by omega, by decide⟩
  subst k
  exact h.uniq this
end Go.Proofs.YtpcjbnaggeiaoaaDoor.MDate
