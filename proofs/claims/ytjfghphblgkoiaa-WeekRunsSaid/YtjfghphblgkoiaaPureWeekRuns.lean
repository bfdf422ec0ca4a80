/-
  The seven days of a week have one week, from Monday on; the next week is another one: for every input and without a condition.
-/
import Derived.Test.YtjfghphblgkoiaaQWeekRunsWeek
import Derived.Test.YtjfghphblgkoiaaQWeekRunsRefWd
namespace Go.Proofs.Ytjfghphblgkoiaa.Pure
open Go.RowKit Go.Proofs.Ytjfghphblgkoiaa.PWeekRuns Go.Proofs.Ytjfghphblgkoiaa.QWeekRuns Go.Proofs.YtjfghphblgkoiaaW.PrintWords Go.Proofs.YtjfghphblgkoiaaW.PrintLast Go.Proofs.Ytjfghphblgkoiaa.MDate

/-- From the i-th day of a week on. -/
theorem runs_l0 (n w y q : Int) (hw : w = (n - 1) % 7) (h1 : 1 ≤ n - w) (h2 : n - w ≤ 3652046) (hq : IsWeek (n - w) y q) (d : Nat) : ∀ (k : Nat) (i : Int), 1 ≤ i → i ≤ 7 → 7 - i = d → d + 60 ≤ k →
    dayshiftlaw02_WeekRuns.l0 k n w y q 0 i = some true := by
  induction d with
  | zero =>
    intro k i h3 h4 hd hk
    obtain ⟨k, rfl⟩ : ∃ q, k = q + 1 := ⟨k - 1, by omega⟩
    obtain rfl : i = 7 := by omega
    simp only [dayshiftlaw02_WeekRuns.l0]
    rw [if_neg (by omega), show wrap64 (wrap64 (n - w) + 7) = n - w + 7 from by rw [wrap64_id (x := n - w) (by omega) (by omega), wrap64_id (by omega) (by omega)]]
    obtain ⟨z, r, e, hr⟩ := Week_ok k (by omega) (n - w + 7) (by omega) (by omega)
    rw [e]
    simp only [Option.bind_some, if_true, known_ok k (by omega)]
    have hb : 1 ≤ q ∧ q ≤ 1000000 := by
      obtain ⟨a1, a2, a3, a4, a5⟩ := hq
      have := before_bd (y := y) a1 (by omega)
      unfold thu at a3 a4 a5
      omega
    have hy := hq.2.1
    have hy1 := hq.1
    rw [show wrap64 (q + 1) = q + 1 from wrap64_id (by omega) (by omega), show wrap64 (y + 1) = y + 1 from wrap64_id (by omega) (by omega)]
    rcases hq.next hr (by unfold thu; omega) (by unfold thu; omega) with ⟨rfl, rfl⟩ | ⟨rfl, rfl, h52⟩
    · simp
    · simp [h52]
  | succ d ih =>
    intro k i h3 h4 hd hk
    obtain ⟨k, rfl⟩ : ∃ q, k = q + 1 := ⟨k - 1, by omega⟩
    simp only [dayshiftlaw02_WeekRuns.l0]
    rw [if_pos (by omega), show wrap64 (wrap64 (n - w) + i) = n - w + i from by rw [wrap64_id (x := n - w) (by omega) (by omega), wrap64_id (by omega) (by omega)], show wrap64 (i + 1) = i + 1 from wrap64_id (by omega) (by omega)]
    obtain ⟨z, r, e, hr⟩ := Week_ok k (by omega) (n - w + i) (by omega) (by omega)
    have hs : IsWeek (n - w + i) y q := by
      have : thu (n - w + i) = thu (n - w) := by unfold thu; omega
      unfold IsWeek at hq ⊢
      rw [this]
      exact hq
    obtain ⟨rfl, rfl⟩ := hs.uniq hr
    rw [e]
    simp only [Option.bind_some, if_true]
    exact ih k (i + 1) (by omega) (by omega) (by omega) (by omega)
theorem WeekRuns : dayshiftlaw02_WeekRuns.Pure := by
  intro n _
  refine ⟨101, ?_⟩
  have hk : dayshiftlaw02_known.f 100 = some true := known_ok 100 (by omega)
  unfold dayshiftlaw02_WeekRuns.f
  rw [RWeekday_eq, Option.bind_some]
  by_cases h : 1 ≤ n ∧ n ≤ 3652059
  · rw [weekday_in h.1 h.2]
    simp only [if_true]
    rw [show wrap64 (n - (n - 1) % 7) = n - (n - 1) % 7 from wrap64_id (by omega) (by omega)]
    by_cases c1 : n - (n - 1) % 7 < 1
    · rw [if_pos c1]
      simp [dayshiftlaw02_WeekRuns.j0, hk]
    rw [if_neg c1]
    by_cases c2 : n - (n - 1) % 7 > 3652046
    · simp [dayshiftlaw02_WeekRuns.j0, hk, c2]
    · simp only [dayshiftlaw02_WeekRuns.j0, c2, decide_false, Bool.false_eq_true, if_false]
      rw [show wrap64 (n - (n - 1) % 7) = n - (n - 1) % 7 from wrap64_id (by omega) (by omega)]
      obtain ⟨y, q, e, hq⟩ := Week_ok 100 (by omega) (n - (n - 1) % 7) (by omega) (by omega)
      rw [e]
      simp only [Option.bind_some]
      exact runs_l0 n _ y q rfl (by omega) (by omega) hq 6 100 1 (by omega) (by omega) (by omega) (by omega)
  · rw [show weekday n = (0, 6) from by unfold weekday; rw [if_neg h]]
    simp [dayshiftlaw02_WeekRuns.j0, hk]
end Go.Proofs.Ytjfghphblgkoiaa.Pure
