/-
  Any day's week, and the ends of its month, are what the reference says: for every input and without a condition.
-/
import Derived.Test.YtjfghphblgkoiaaQWeekDaysWeek
import Derived.Test.YtjfghphblgkoiaaQWeekDaysRefDays
import Derived.Test.YtjfghphblgkoiaaQWeekDaysRefDate
import Derived.Test.YtjfghphblgkoiaaQWeekDaysRefWd
namespace Go.Proofs.Ytjfghphblgkoiaa.Pure
open Go.RowKit Go.Proofs.Ytjfghphblgkoiaa.PWeekDays Go.Proofs.Ytjfghphblgkoiaa.QWeekDays Go.Proofs.YtjfghphblgkoiaaW.PrintWords Go.Proofs.YtjfghphblgkoiaaW.PrintLast Go.Proofs.Ytjfghphblgkoiaa.MDate

theorem RWeek_l0 (y f : Int) (hf : 1 ≤ f) (e : Nat) : ∀ (k : Nat) (c d : Int), d ≤ 4000000 → f - 7 ≤ d → (d - f + 7) / 7 = e → e < k → 0 ≤ c → c + e ≤ 1000000 →
    dayshiftref02_Week.l0 k y f c d = some (y, c + (d - f + 7) / 7, 0) := by
  induction e with
  | zero =>
    intro k c d h1 h2 he hk hc hc2
    obtain ⟨k, rfl⟩ : ∃ q, k = q + 1 := ⟨k - 1, by omega⟩
    simp only [dayshiftref02_Week.l0]
    rw [if_neg (by omega), show c + (d - f + 7) / 7 = c by omega]
  | succ e ih =>
    intro k c d h1 h2 he hk hc hc2
    obtain ⟨k, rfl⟩ : ∃ q, k = q + 1 := ⟨k - 1, by omega⟩
    simp only [dayshiftref02_Week.l0]
    rw [if_pos (by omega), show wrap64 (c + 1) = c + 1 from wrap64_id (by omega) (by omega), show wrap64 (d - 7) = d - 7 from wrap64_id (by omega) (by omega)]
    rw [ih k (c + 1) (d - 7) (by omega) (by omega) (by omega) (by omega) (by omega) (by omega)]
    congr 3
    omega
theorem RWeek_ok (k : Nat) (hk : 200 ≤ k) (n : Int) (h1 : 1 ≤ n) (h2 : n ≤ 3652059) : ∃ y q, dayshiftref02_Week.f k n = some (y, q, 0) ∧ IsWeek n y q := by
  obtain ⟨k, rfl⟩ : ∃ q, k = q + 1 := ⟨k - 1, by omega⟩
  unfold dayshiftref02_Week.f
  rw [RWeekday_eq, Option.bind_some, weekday_in h1 h2]
  simp only [if_true]
  rw [show wrap64 (wrap64 (n - (n - 1) % 7) + 3) = thu n from by unfold thu; rw [wrap64_id (x := n - (n - 1) % 7) (by omega) (by omega), wrap64_id (by omega) (by omega)]]
  have ht : 4 ≤ thu n ∧ thu n ≤ 3652065 := by unfold thu; omega
  have fin : ∀ y, 1 ≤ y → y ≤ 9999 → before y < thu n → thu n ≤ before y + 372 → dayshiftref02_Week.j0 (k + 1) (thu n) y = some (y, (thu n - (before y + 1)) / 7 + 1, 0) := by
    intro y hy1 hy2 hy hy3
    have hd : IsDate (before y + 1) y 1 1 := ⟨hy1, hy2, by omega, by omega, by omega, by have := len_pos y 1 (by omega) (by omega); omega, by rw [cum_one]; omega⟩
    have hb := before_bd (y := y) hy1 (by omega)
    simp only [dayshiftref02_Week.j0]
    rw [RDays_eq k (by omega) y 1 1 (by omega), days_of hd, Option.bind_some]
    simp only
    rw [RWeek_l0 y (before y + 1) (by omega) ((thu n - (before y + 1) + 7) / 7).toNat k 0 (thu n) (by omega) (by omega) (by omega) (by omega) (by omega) (by omega)]
    congr 3
    omega
  by_cases h : thu n ≤ 3652059
  · obtain ⟨y, m, d, e, hd⟩ := RDate_ok (k + 1) (by omega) (thu n) (by omega) h
    have hu := hd.upper
    have hs := before_succ y
    have hl := lp_bd y
    obtain ⟨a1, a2, a3⟩ := hd
    refine ⟨y, (thu n - (before y + 1)) / 7 + 1, ?_, a1, a2, hu.1, .inl hu.2, rfl⟩
    rw [if_pos h, e]
    simp only [Option.bind_some]
    exact fin y a1 a2 hu.1 (by omega)
  · have hb9 : before 10000 = before 9999 + 365 + lp 9999 := before_succ 9999
    have ht := before_top
    have hl := lp_bd 9999
    have hb : before 9999 < thu n := by omega
    refine ⟨9999, (thu n - (before 9999 + 1)) / 7 + 1, ?_, by omega, by omega, hb, .inr rfl, rfl⟩
    rw [if_neg h]
    exact fin 9999 (by omega) (by omega) hb (by omega)
theorem RWeek_no (k : Nat) (n : Int) (h : ¬ (1 ≤ n ∧ n ≤ 3652059)) : dayshiftref02_Week.f k n = some (0, 0, 6) := by
  unfold dayshiftref02_Week.f
  rw [RWeekday_eq, Option.bind_some, show weekday n = (0, 6) from by unfold weekday; rw [if_neg h]]
  rfl
theorem WeekDays : dayshiftlaw02_WeekDays.Pure := by
  intro n _
  refine ⟨300, ?_⟩
  unfold dayshiftlaw02_WeekDays.f
  by_cases h : 1 ≤ n ∧ n ≤ 3652059
  · obtain ⟨y, q, e, w1⟩ := Week_ok 300 (by omega) n h.1 h.2
    obtain ⟨z, r, f, w2⟩ := RWeek_ok 300 (by omega) n h.1 h.2
    obtain ⟨rfl, rfl⟩ := w1.uniq w2
    obtain ⟨y', m, d, e', hd⟩ := Date_ok 300 (by omega) n h.1 h.2
    obtain ⟨z', p, c, f', hc⟩ := RDate_ok 300 (by omega) n h.1 h.2
    obtain ⟨rfl, rfl, rfl⟩ := hd.uniq hc
    have hl := len_bd y' m
    have hd' := hd
    obtain ⟨a1, a2, a3, a4, a5, a6, a7⟩ := hd'
    rw [e, f]
    unfold week_First.f week_Last.f week_month.f dayshiftref02_First.f dayshiftref02_Last.f
    rw [e', f']
    simp only [Option.bind_some, if_true, Len_eq, RLen_eq 300 (by omega)]
    have k1 : wrap64 (wrap64 (wrap64 (wrap64 (n - d) + 1) + len y' m) - 1) = wrap64 (wrap64 (n - d) + len y' m) := by
      rw [wrap64_id (x := n - d) (by omega) (by omega), wrap64_id (x := n - d + 1) (by omega) (by omega), wrap64_id (x := n - d + 1 + len y' m) (by omega) (by omega), wrap64_id (by omega) (by omega), wrap64_id (by omega) (by omega)]
      omega
    rw [k1, known_ok 300 (by omega)]
    simp
  · rw [Week_no 300 n h, RWeek_no 300 n h]
    unfold week_First.f week_Last.f week_month.f dayshiftref02_First.f dayshiftref02_Last.f
    rw [Date_no 300 n h, RDate_no 300 n h, known_ok 300 (by omega)]
    rfl
end Go.Proofs.Ytjfghphblgkoiaa.Pure
