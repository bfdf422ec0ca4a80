/-
  What the reference's day of a date comes to, as numbers. No conditions beyond those that each theorem names.
-/
import Derived.Test.YtjfghphblgkoiaaQWeekNthsRefLen
namespace Go.Proofs.Ytjfghphblgkoiaa.QWeekNths
open Go.RowKit Go.Proofs.Ytjfghphblgkoiaa.PWeekNths Go.Proofs.YtjfghphblgkoiaaW.PrintWords Go.Proofs.YtjfghphblgkoiaaW.PrintLast Go.Proofs.Ytjfghphblgkoiaa.MDate
set_option linter.unusedVariables false
set_option linter.unusedSimpArgs false

theorem RDays_l0 (y : Int) (m : Int) (hm1 : 1 ≤ m) (hm2 : m ≤ 12) (b : Int) (hb : 0 ≤ b ∧ b ≤ 4000000) (d : Nat) : ∀ (k : Nat) (i : Int), 1 ≤ i → i ≤ m → m - i = d → d + 2 < k →
    dayshiftref01_Days.l0 k y m (b + cum y i) i = some (b + cum y m, 0) := by
  induction d with
  | zero =>
    intro k i h0 h1 hd hk
    obtain ⟨k, rfl⟩ : ∃ q, k = q + 1 := ⟨k - 1, by omega⟩
    have hi : i = m := by omega
    simp only [dayshiftref01_Days.l0]
    rw [if_neg (by omega), hi]
  | succ d ih =>
    intro k i h0 h1 hd hk
    obtain ⟨k, rfl⟩ : ∃ q, k = q + 1 := ⟨k - 1, by omega⟩
    have hi : i < m := by omega
    have hc := cum_bd y i (by omega) (by omega)
    have hl := len_bd y i
    have hs := cum_succ y i (by omega) (by omega)
    have := ih k (i + 1) (by omega) (by omega) (by omega) (by omega)
    simp only [dayshiftref01_Days.l0]
    rw [if_pos hi]
    rw [show wrap64 (i + 1) = i + 1 from wrap64_id (by omega) (by omega), RLen_eq k (by omega), Option.bind_some]
    rw [show wrap64 (b + cum y i + len y i) = b + cum y (i + 1) from by rw [hs, wrap64_id (by omega) (by omega)]; omega]
    exact this
theorem RDays_eq (k : Nat) (hk : 20 ≤ k) (y m d : Int) (hd : d ≤ 9223372036854775807) : dayshiftref01_Days.f k y m d = some (days y m d) := by
  obtain ⟨k, rfl⟩ : ∃ q, k = q + 1 := ⟨k - 1, by omega⟩
  unfold dayshiftref01_Days.f days
  split
  · simp [dayshiftref01_Days.j0]
  split
  · simp [dayshiftref01_Days.j0]
  split
  · simp [dayshiftref01_Days.j0]
  rename_i h1 h2 h3
  rw [RLen_eq (k + 1) (by omega), Option.bind_some]
  by_cases h4 : d > len y m
  · rw [if_pos h4]
    simp [dayshiftref01_Days.j0, h4]
  · rw [if_neg h4]
    simp only [dayshiftref01_Days.j0, h4, decide_false, Bool.false_eq_true, if_false]
    have hm := len_range y m (by omega)
    have hl := len_bd y m
    have hb := before_bd (y := y) (by omega) (by omega)
    rw [ahead_eq y (by omega) (by omega), Option.bind_some]
    rw [show wrap64 (before y + d) = before y + d + cum y 1 from by rw [wrap64_id (by omega) (by omega), cum_one]; omega]
    rw [RDays_l0 y m hm.1 hm.2 (before y + d) (by omega) (m - 1).toNat k 1 (by omega) (by omega) (by omega) (by omega)]
    congr 2
    omega
end Go.Proofs.Ytjfghphblgkoiaa.QWeekNths
