/-
  What the reference's leap years and lengths of months come to, as numbers. No conditions beyond those that each theorem names.
-/
import Derived.Test.YtjfghphblgkoiaaQWeekNthsDate
namespace Go.Proofs.Ytjfghphblgkoiaa.QWeekNths
open Go.RowKit Go.Proofs.Ytjfghphblgkoiaa.PWeekNths Go.Proofs.YtjfghphblgkoiaaW.PrintWords Go.Proofs.YtjfghphblgkoiaaW.PrintLast Go.Proofs.Ytjfghphblgkoiaa.MDate
set_option linter.unusedVariables false
set_option linter.unusedSimpArgs false

theorem tmod_bd (a b : Int) (hb : 0 < b) : -b < Int.tmod a b ∧ Int.tmod a b < b := by
  rcases Int.le_total 0 a with h | h
  · rw [Int.tmod_eq_emod_of_nonneg h]
    have := Int.emod_nonneg a (show b ≠ 0 by omega)
    have := Int.emod_lt_of_pos a hb
    omega
  · have e : Int.tmod a b = - ((-a) % b) := by
      rw [← Int.tmod_eq_emod_of_nonneg (show 0 ≤ -a by omega), Int.neg_tmod]
      omega
    have := Int.emod_nonneg (-a) (show b ≠ 0 by omega)
    have := Int.emod_lt_of_pos (-a) hb
    omega
theorem rmod_zero (a b : Int) (hb : 1 < b) (hb2 : b ≤ 1000) : ∃ r, dayshiftref01_mod.f a b = some r ∧ (r = 0 ↔ a % b = 0) := by
  unfold dayshiftref01_mod.f
  rw [if_neg (by omega)]
  have ht := tmod_bd a b (by omega)
  by_cases h : Int.tmod a b < 0
  · rw [if_pos h]
    refine ⟨_, rfl, ?_⟩
    rw [wrap64_id (by omega) (by omega), ← tmod_zero]
    omega
  · rw [if_neg h]
    exact ⟨_, rfl, by rw [tmod_zero]⟩
theorem RLeap_eq (y : Int) : dayshiftref01_Leap.f y = some (leapB y) := by
  unfold dayshiftref01_Leap.f leapB
  obtain ⟨r4, e4, h4⟩ := rmod_zero y 4 (by omega) (by omega)
  obtain ⟨r100, e100, h100⟩ := rmod_zero y 100 (by omega) (by omega)
  obtain ⟨r400, e400, h400⟩ := rmod_zero y 400 (by omega) (by omega)
  rw [e4, Option.bind_some]
  by_cases c4 : r4 = 0
  · rw [if_pos c4, e100, Option.bind_some]
    by_cases c100 : r100 = 0
    · rw [if_pos c100, e400, Option.bind_some]
      have : (r400 == 0) = decide (y % 400 = 0) := by
        rw [Bool.eq_iff_iff, beq_iff_eq, decide_eq_true_iff, h400]
      rw [this]
      simp [h4.1 c4, h100.1 c100]
    · rw [if_neg c100]
      have : ¬ y % 100 = 0 := fun h => c100 (h100.2 h)
      simp [h4.1 c4, this]
  · rw [if_neg c4]
    have : ¬ y % 4 = 0 := fun h => c4 (h4.2 h)
    simp [this]
theorem RLen_eq (k : Nat) (hk : 2 ≤ k) (y m : Int) : dayshiftref01_Len.f k y m = some (len y m) := by
  obtain ⟨k, rfl⟩ : ∃ q, k = q + 2 := ⟨k - 2, by omega⟩
  by_cases hm : 1 ≤ m ∧ m ≤ 12
  · rcases months hm.1 hm.2 with rfl | rfl | rfl | rfl | rfl | rfl | rfl | rfl | rfl | rfl | rfl | rfl
    all_goals
      simp [dayshiftref01_Len.f, dayshiftref01_Len.j0, dayshiftref01_Len.j1, len]
    rw [RLeap_eq, Option.bind_some]
    rcases lp_cases y with ⟨h, hl⟩ | ⟨h, hl⟩ <;> rw [h, hl] <;> rfl
  · rw [len_out y m (by omega)]
    have e1 : ¬ m = 1 := by omega
    have e2 : ¬ m = 2 := by omega
    have e3 : ¬ m = 3 := by omega
    have e4 : ¬ m = 4 := by omega
    have e5 : ¬ m = 5 := by omega
    have e6 : ¬ m = 6 := by omega
    have e7 : ¬ m = 7 := by omega
    have e8 : ¬ m = 8 := by omega
    have e9 : ¬ m = 9 := by omega
    have e10 : ¬ m = 10 := by omega
    have e11 : ¬ m = 11 := by omega
    have e12 : ¬ m = 12 := by omega
    simp [dayshiftref01_Len.f, dayshiftref01_Len.j0, dayshiftref01_Len.j1, e1, e2, e3, e4, e5, e6, e7, e8, e9, e10, e11, e12]
theorem ahead_eq (y : Int) (h1 : 1 ≤ y) (h2 : y ≤ 10001) : dayshiftref01_ahead.f y = some (before y) := by
  unfold dayshiftref01_ahead.f before
  simp (disch := omega) only [wrap64_id, Int.tdiv_eq_ediv_of_nonneg]
end Go.Proofs.Ytjfghphblgkoiaa.QWeekNths
