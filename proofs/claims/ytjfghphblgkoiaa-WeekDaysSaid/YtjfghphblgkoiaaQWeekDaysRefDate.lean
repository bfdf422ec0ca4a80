/-
  What the reference's date of a day comes to, as numbers. No conditions beyond those that each theorem names.
-/
import Derived.Test.YtjfghphblgkoiaaQWeekDaysRefLen
namespace Go.Proofs.Ytjfghphblgkoiaa.QWeekDays
open Go.RowKit Go.Proofs.Ytjfghphblgkoiaa.PWeekDays Go.Proofs.YtjfghphblgkoiaaW.PrintWords Go.Proofs.YtjfghphblgkoiaaW.PrintLast Go.Proofs.Ytjfghphblgkoiaa.MDate
set_option linter.unusedVariables false
set_option linter.unusedSimpArgs false

theorem RRight_eq (n : Int) : dayshiftref01_Right.f n = some (rightB n) := by
  unfold dayshiftref01_Right.f rightB
  by_cases h : n ≥ 1
  · have : (1 ≤ n) := h
    rw [if_pos h]; simp [this]
  · have : ¬ (1 ≤ n) := h
    rw [if_neg h]; simp [this]
theorem RDate_l1 (y : Int) (n : Int) (hn : before y < n ∧ n ≤ before (y + 1)) (d : Nat) : ∀ (k : Nat) (m : Int), 1 ≤ m → m ≤ 12 → 12 - m = d → d + 2 < k → cum y m < n - before y →
    ∃ p q, dayshiftref01_Date.l1 k y (n - before y - cum y m) m = some (y, p, q, 0) ∧ 1 ≤ p ∧ p ≤ 12 ∧ 1 ≤ q ∧ q ≤ len y p ∧ n = before y + cum y p + q := by
  have hb := before_succ y
  have hc13 := cum_end y
  have hlp := lp_bd y
  induction d with
  | zero =>
    intro k m h0 h1 hd hk hlt
    obtain ⟨k, rfl⟩ : ∃ q, k = q + 1 := ⟨k - 1, by omega⟩
    obtain rfl : m = 12 := by omega
    have hs := cum_succ y 12 (by omega) (by omega)
    rw [show (12 : Int) + 1 = 13 from rfl] at hs
    refine ⟨12, n - before y - cum y 12, ?_, by omega, by omega, by omega, by omega, by omega⟩
    simp only [dayshiftref01_Date.l1]
    rw [RLen_eq k (by omega), Option.bind_some, if_neg (by omega)]
  | succ d ih =>
    intro k m h0 h1 hd hk hlt
    obtain ⟨k, rfl⟩ : ∃ q, k = q + 1 := ⟨k - 1, by omega⟩
    have hs := cum_succ y m (by omega) (by omega)
    have hc := cum_bd y m (by omega) (by omega)
    have hl := len_bd y m
    simp only [dayshiftref01_Date.l1]
    rw [RLen_eq k (by omega), Option.bind_some]
    by_cases h : n - before y - cum y m > len y m
    · obtain ⟨p, q, e, h'⟩ := ih k (m + 1) (by omega) (by omega) (by omega) (by omega) (by omega)
      refine ⟨p, q, ?_, h'⟩
      rw [if_pos h, Option.bind_some]
      rw [show wrap64 (n - before y - cum y m - len y m) = n - before y - cum y (m + 1) from by rw [hs, wrap64_id (by omega) (by omega)]; omega, show wrap64 (m + 1) = m + 1 from wrap64_id (by omega) (by omega)]
      exact e
    · refine ⟨m, n - before y - cum y m, ?_, by omega, by omega, by omega, by omega, by omega⟩
      rw [if_neg h]
/-- From the guessed year on: as long as the next year begins ahead of the day. -/
theorem RDate_l0 (n : Int) (h1 : 1 ≤ n) (h2 : n ≤ 3652059) (d : Nat) : ∀ (k : Nat) (y : Int), 1 ≤ y → y ≤ 9999 → 9999 - y = d → before y < n → (n - before y) / 365 + 20 < k →
    ∃ z m q, dayshiftref01_Date.l0 k n y = some (z, m, q, 0) ∧ IsDate n z m q := by
  have ht := before_top
  induction d with
  | zero =>
    intro k y hy1 hy2 hd hlt hk
    obtain ⟨k, rfl⟩ : ∃ q, k = q + 1 := ⟨k - 1, by omega⟩
    obtain rfl : y = 9999 := by omega
    simp only [dayshiftref01_Date.l0]
    have c1 := cum_one 9999
    have hb := before_bd (y := 9999) (by omega) (by omega)
    rw [show wrap64 (9999 + 1) = 10000 from by rw [wrap64_id (by omega) (by omega)]; rfl, ahead_eq 10000 (by omega) (by omega), Option.bind_some, if_neg (by omega), ahead_eq 9999 (by omega) (by omega), Option.bind_some]
    rw [show wrap64 (n - before 9999) = n - before 9999 - cum 9999 1 from by rw [wrap64_id (by omega) (by omega), c1]; omega]
    obtain ⟨p, q, e, h3, h4, h5, h6, h7⟩ := RDate_l1 9999 n ⟨hlt, by rw [show (9999 : Int) + 1 = 10000 from rfl]; omega⟩ 11 k 1 (by omega) (by omega) (by omega) (by omega) (by omega)
    exact ⟨9999, p, q, e, by omega, by omega, h3, h4, h5, h6, h7⟩
  | succ d ih =>
    intro k y hy1 hy2 hd hlt hk
    obtain ⟨k, rfl⟩ : ∃ q, k = q + 1 := ⟨k - 1, by omega⟩
    simp only [dayshiftref01_Date.l0]
    have c1 := cum_one y
    have hb := before_bd (y := y) (by omega) (by omega)
    have hs := before_succ y
    have hlp := lp_bd y
    rw [show wrap64 (y + 1) = y + 1 from wrap64_id (by omega) (by omega), ahead_eq (y + 1) (by omega) (by omega), Option.bind_some]
    by_cases h : before (y + 1) < n
    · rw [if_pos h]
      exact ih k (y + 1) (by omega) (by omega) (by omega) h (by omega)
    · rw [if_neg h, ahead_eq y (by omega) (by omega), Option.bind_some]
      rw [show wrap64 (n - before y) = n - before y - cum y 1 from by rw [wrap64_id (by omega) (by omega), c1]; omega]
      obtain ⟨p, q, e, h3, h4, h5, h6, h7⟩ := RDate_l1 y n ⟨hlt, by omega⟩ 11 k 1 (by omega) (by omega) (by omega) (by omega) (by omega)
      exact ⟨y, p, q, e, by omega, by omega, h3, h4, h5, h6, h7⟩
theorem guess2_near (n : Int) (h1 : 1 ≤ n) (h2 : n ≤ 3652059) : (n - before (n / 366 + 1)) / 365 ≤ 40 := by
  unfold before
  omega
theorem RDate_ok (k : Nat) (hk : 100 ≤ k) (n : Int) (h1 : 1 ≤ n) (h2 : n ≤ 3652059) : ∃ y m d, dayshiftref01_Date.f k n = some (y, m, d, 0) ∧ IsDate n y m d := by
  have hg := guess2 n h1 h2
  have hgb := guess2_bd n h1 h2
  have hgn := guess2_near n h1 h2
  unfold dayshiftref01_Date.f
  rw [RRight_eq, Option.bind_some, show rightB n = true from by simp [rightB, h1, h2], if_pos rfl]
  rw [show wrap64 (wrap64 (Int.tdiv n 366) + 1) = n / 366 + 1 from by simp (disch := omega) only [wrap64_id, Int.tdiv_eq_ediv_of_nonneg]]
  exact RDate_l0 n h1 h2 (9999 - (n / 366 + 1)).toNat k (n / 366 + 1) (by omega) (by omega) (by omega) hg (by omega)
theorem RDate_no (k : Nat) (n : Int) (h : ¬ (1 ≤ n ∧ n ≤ 3652059)) : dayshiftref01_Date.f k n = some (0, 0, 0, 6) := by
  unfold dayshiftref01_Date.f
  rw [RRight_eq, Option.bind_some, show rightB n = false from by rw [rightB]; simp; omega]
  rfl
end Go.Proofs.Ytjfghphblgkoiaa.QWeekDays
