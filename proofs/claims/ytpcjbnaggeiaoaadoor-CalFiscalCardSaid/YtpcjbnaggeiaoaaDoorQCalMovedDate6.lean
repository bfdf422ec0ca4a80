/-
  What the program's functions of package date come to, as numbers: each of these Lean functions answers as the calendar's numbers say. No conditions beyond those that each theorem names.
-/
import Derived.Test.YtpcjbnaggeiaoaaDoorPCalMovedx
import Derived.Test.YtpcjbnaggeiaoaaDoorMDate
namespace Go.Proofs.YtpcjbnaggeiaoaaDoor.QCalMoved
open Go.RowKit Go.Proofs.YtpcjbnaggeiaoaaDoor.PCalMoved Go.Proofs.YtpcjbnaggeiaoaaDoorW.PrintWords Go.Proofs.YtpcjbnaggeiaoaaDoorW.PrintLast Go.Proofs.YtpcjbnaggeiaoaaDoor.MDate
set_option linter.unusedVariables false
set_option linter.unusedSimpArgs false

theorem wrap64_id {x : Int} (h : -9223372036854775808 ≤ x) (h2 : x ≤ 9223372036854775807) : wrap64 x = x := by unfold wrap64; omega
theorem wf64 {x : Int} (h : (Lit.int .i64 x).wf = true) : -9223372036854775808 ≤ x ∧ x ≤ 9223372036854775807 := by
  have e : IntKind.i64.min = -9223372036854775808 := by decide
  have f : IntKind.i64.max = 9223372036854775807 := by decide
  simp [Lit.wf, e] at h
  omega
theorem tmod_zero (a b : Int) : (Int.tmod a b = 0) ↔ (a % b = 0) := by
  rw [← Int.dvd_iff_tmod_eq_zero, ← Int.dvd_iff_emod_eq_zero]
theorem Leap_eq (y : Int) : date_Leap.f y = some (leapB y) := by
  unfold date_Leap.f leapB
  simp only [tmod_zero]
  by_cases h4 : y % 4 = 0
  · by_cases h100 : y % 100 = 0
    · rw [if_pos h4, if_pos h100]
      have : (Int.tmod y 400 == 0) = decide (y % 400 = 0) := by
        rw [Bool.eq_iff_iff, beq_iff_eq, decide_eq_true_iff, tmod_zero]
      rw [this]
      simp [h4, h100]
    · rw [if_pos h4, if_neg h100]
      simp [h4, h100]
  · rw [if_neg h4]
    simp [h4]
theorem Len_eq (y m : Int) : date_Len.f y m = some (len y m) := by
  unfold date_Len.f len date_Len.long
  split
  · rfl
  · split
    · rfl
    · split
      · rw [Leap_eq, Option.bind_some]
        rcases lp_cases y with ⟨h, hl⟩ | ⟨h, hl⟩ <;> rw [h, hl] <;> rfl
      · rfl
theorem before_eq (y : Int) (h1 : 1 ≤ y) (h2 : y ≤ 10000) : date_before.f y = some (before y) := by
  unfold date_before.f before
  simp (disch := omega) only [wrap64_id, Int.tdiv_eq_ediv_of_nonneg]
  congr 1
  omega
theorem Days_l0 (y : Int) (hy : 1 ≤ y ∧ y ≤ 9999) (m : Int) (hm1 : 1 ≤ m) (hm2 : m ≤ 12) (b : Int) (hb : 0 ≤ b ∧ b ≤ 4000000) (d : Nat) : ∀ (k : Nat) (i : Int), 0 ≤ i → i ≤ m - 1 → m - 1 - i = d → d < k →
    date_Days.l0 k y (b + cum y (i + 1)) (m - 1) i = some (b + cum y m, 0) := by
  induction d with
  | zero =>
    intro k i h0 h1 hd hk
    obtain ⟨k, rfl⟩ : ∃ q, k = q + 1 := ⟨k - 1, by omega⟩
    have hi : i = m - 1 := by omega
    simp only [date_Days.l0]
    rw [if_neg (by omega), hi, show m - 1 + 1 = m by omega]
  | succ d ih =>
    intro k i h0 h1 hd hk
    obtain ⟨k, rfl⟩ : ∃ q, k = q + 1 := ⟨k - 1, by omega⟩
    have hi : i < m - 1 := by omega
    have hc := cum_bd y (i + 1) (by omega) (by omega)
    have hl := len_bd y (i + 1)
    have hs := cum_succ y (i + 1) (by omega) (by omega)
    have := ih k (i + 1) (by omega) (by omega) (by omega) (by omega)
    simp only [date_Days.l0]
    rw [if_pos hi]
    rw [show wrap64 (i + 1) = i + 1 from wrap64_id (by omega) (by omega), Len_eq, Option.bind_some]
    rw [show wrap64 (b + cum y (i + 1) + len y (i + 1)) = b + cum y (i + 1 + 1) from by rw [hs, wrap64_id (by omega) (by omega)]; omega]
    exact this
theorem Days_eq (k : Nat) (hk : 15 ≤ k) (y m d : Int) (hd : d ≤ 9223372036854775807) : date_Days.f k y m d = some (days y m d) := by
  obtain ⟨k, rfl⟩ : ∃ q, k = q + 1 := ⟨k - 1, by omega⟩
  unfold date_Days.f days
  split
  · simp [date_Days.j0]
  split
  · simp [date_Days.j0]
  split
  · simp [date_Days.j0]
  rename_i h1 h2 h3
  rw [Len_eq, Option.bind_some]
  by_cases h4 : d > len y m
  · rw [if_pos h4]
    simp [date_Days.j0, h4]
  · rw [if_neg h4]
    simp only [date_Days.j0, h4, decide_false, Bool.false_eq_true, if_false]
    have hm := len_range y m (by omega)
    have hl := len_bd y m
    have hb := before_bd (y := y) (by omega) (by omega)
    rw [before_eq y (by omega) (by omega), Option.bind_some]
    rw [show wrap64 (before y + d) = before y + d + cum y (0 + 1) from by rw [wrap64_id (by omega) (by omega), show (0 : Int) + 1 = 1 from rfl, cum_one]; omega, show wrap64 (m - 1) = m - 1 from wrap64_id (by omega) (by omega)]
    rw [Days_l0 y ⟨by omega, by omega⟩ m hm.1 hm.2 (before y + d) (by omega) (m - 1).toNat k 0 (by omega) (by omega) (by omega) (by omega)]
    congr 2
    omega
def rightB (n : Int) : Bool := decide (1 ≤ n) && decide (n ≤ 3652059)
theorem Right_eq (n : Int) : date_Right.f n = some (rightB n) := by
  unfold date_Right.f rightB
  by_cases h : n ≥ 1
  · have : (1 ≤ n) := h
    rw [if_pos h]; simp [this]
  · have : ¬ (1 ≤ n) := h
    rw [if_neg h]; simp [this]
theorem Date_l0 (y : Int) (n : Int) (hn : before y < n ∧ n ≤ before (y + 1)) (d : Nat) : ∀ (k : Nat) (m : Int), 1 ≤ m → m ≤ 12 → 12 - m = d → d < k → cum y m < n - before y →
    ∃ p q, date_Date.l0 k y (n - before y - cum y m) m = some (y, p, q, 0) ∧ 1 ≤ p ∧ p ≤ 12 ∧ 1 ≤ q ∧ q ≤ len y p ∧ n = before y + cum y p + q := by
  have hb := before_succ y
  have hc13 := cum_end y
  have hlp := lp_bd y
  induction d with
  | zero =>
    intro k m h0 h1 hd hk hlt
    obtain ⟨k, rfl⟩ : ∃ q, k = q + 1 := ⟨k - 1, by omega⟩
    obtain rfl : m = 12 := by omega
    have hs := cum_succ y 12 (by omega) (by omega)
    rw [show (12 : Int) + 1 = 13 from rfl] at hs
    refine ⟨12, n - before y - cum y 12, ?_, by omega, by omega, by omega, by omega, by omega⟩
    simp only [date_Date.l0]
    rw [Len_eq, Option.bind_some, if_neg (by omega)]
  | succ d ih =>
    intro k m h0 h1 hd hk hlt
    obtain ⟨k, rfl⟩ : ∃ q, k = q + 1 := ⟨k - 1, by omega⟩
    have hs := cum_succ y m (by omega) (by omega)
    have hc := cum_bd y m (by omega) (by omega)
    have hl := len_bd y m
    simp only [date_Date.l0]
    rw [Len_eq, Option.bind_some]
    by_cases h : n - before y - cum y m > len y m
    · obtain ⟨p, q, e, h'⟩ := ih k (m + 1) (by omega) (by omega) (by omega) (by omega) (by omega)
      refine ⟨p, q, ?_, h'⟩
      rw [if_pos h, Option.bind_some]
      rw [show wrap64 (n - before y - cum y m - len y m) = n - before y - cum y (m + 1) from by rw [hs, wrap64_id (by omega) (by omega)]; omega, show wrap64 (m + 1) = m + 1 from wrap64_id (by omega) (by omega)]
      exact e
    · refine ⟨m, n - before y - cum y m, ?_, by omega, by omega, by omega, by omega, by omega⟩
      rw [if_neg h]
theorem Date_ok (k : Nat) (hk : 20 ≤ k) (n : Int) (h1 : 1 ≤ n) (h2 : n ≤ 3652059) : ∃ y m d, date_Date.f k n = some (y, m, d, 0) ∧ IsDate n y m d := by
  obtain ⟨k, rfl⟩ : ∃ q, k = q + 2 := ⟨k - 2, by omega⟩
  have hg := guess n h1 h2
  have hgb := guess_bd n h1 h2
  have e1 : wrap64 (Int.tdiv (wrap64 (wrap64 (n - 1) * 400)) 146097) = (n - 1) * 400 / 146097 := by
    simp (disch := omega) only [wrap64_id, Int.tdiv_eq_ediv_of_nonneg]
  unfold date_Date.f
  rw [Right_eq, Option.bind_some, show rightB n = true from by simp [rightB, h1, h2], if_pos rfl, e1]
  generalize (n - 1) * 400 / 146097 = a at *
  rw [show wrap64 (a + 1) = a + 1 from wrap64_id (by omega) (by omega), before_eq (a + 1) (by omega) (by omega), Option.bind_some, if_neg (by omega)]
  simp only [date_Date.j0]
  rw [show wrap64 (a + 1 + 1) = a + 1 + 1 from wrap64_id (by omega) (by omega), before_eq (a + 1 + 1) (by omega) (by omega), Option.bind_some]
  have key : ∀ y, 1 ≤ y → y ≤ 10000 → before y < n ∧ n ≤ before (y + 1) → ∃ y' m d, date_Date.j1 (k + 1) n y = some (y', m, d, 0) ∧ IsDate n y' m d := by
    intro y hy1 hy2 hy
    have hb := before_bd hy1 hy2
    have c1 := cum_one y
    simp only [date_Date.j1]
    rw [before_eq y hy1 hy2, Option.bind_some, show wrap64 (n - before y) = n - before y - cum y 1 from by rw [wrap64_id (by omega) (by omega), c1]; omega]
    obtain ⟨p, q, e, h3, h4, h5, h6, h7⟩ := Date_l0 y n hy 11 k 1 (by omega) (by omega) (by omega) (by omega) (by omega)
    have hy9 : y ≤ 9999 := by
      rcases Int.lt_or_le y 10000 with h | h
      · omega
      · obtain rfl : y = 10000 := by omega
        have := before_top
        omega
    exact ⟨y, p, q, e, hy1, hy9, h3, h4, h5, h6, h7⟩
  by_cases h : before (a + 1 + 1) < n
  · rw [if_pos h]
    exact key _ (by omega) (by omega) ⟨h, hg.2⟩
  · rw [if_neg h]
    exact key _ (by omega) (by omega) ⟨hg.1, by omega⟩
theorem Date_no (k : Nat) (n : Int) (h : ¬ (1 ≤ n ∧ n ≤ 3652059)) : date_Date.f k n = some (0, 0, 0, 6) := by
  unfold date_Date.f
  rw [Right_eq, Option.bind_some, show rightB n = false from by rw [rightB]; simp; omega]
  rfl
def weekday (n : Int) : Int × Int := if 1 ≤ n ∧ n ≤ 3652059 then ((n - 1) % 7, 0) else (0, 6)
theorem Weekday_eq (n : Int) : date_Weekday.f n = some (weekday n) := by
  unfold date_Weekday.f weekday
  rw [Right_eq, Option.bind_some]
  by_cases h : 1 ≤ n ∧ n ≤ 3652059
  · rw [if_pos h, show rightB n = true from by simp [rightB, h.1, h.2], if_pos rfl, wrap64_id (by omega) (by omega), Int.tmod_eq_emod_of_nonneg (by omega)]
  · rw [if_neg h, show rightB n = false from by rw [rightB]; simp; omega]
    rfl
end Go.Proofs.YtpcjbnaggeiaoaaDoor.QCalMoved
