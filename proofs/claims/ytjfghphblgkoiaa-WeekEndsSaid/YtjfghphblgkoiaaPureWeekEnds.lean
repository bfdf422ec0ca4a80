/-
  The k-th weekday of a month from its beginning is one from its end, so that all of them are counted: for every input and without a condition.
-/
import Derived.Test.YtjfghphblgkoiaaQWeekEndsWeek
import Derived.Test.YtjfghphblgkoiaaQWeekEndsRefWd
namespace Go.Proofs.Ytjfghphblgkoiaa.Pure
open Go.RowKit Go.Proofs.Ytjfghphblgkoiaa.PWeekEnds Go.Proofs.Ytjfghphblgkoiaa.QWeekEnds Go.Proofs.YtjfghphblgkoiaaW.PrintWords Go.Proofs.YtjfghphblgkoiaaW.PrintLast Go.Proofs.Ytjfghphblgkoiaa.MDate

theorem WeekEnds : dayshiftlaw02_WeekEnds.Pure := by
  intro y m wd k _ _ _ hkk
  have hk' := wf64 hkk
  refine ⟨101, ?_⟩
  have hk : dayshiftlaw02_known.f 100 = some true := known_ok 100 (by omega)
  unfold dayshiftlaw02_WeekEnds.f
  rw [Nth_eq 101 (by omega), Option.bind_some]
  by_cases h0 : (nthOf y m wd k).2 = 0
  · rw [if_pos h0]
    by_cases h1 : k < 1
    · simp [dayshiftlaw02_WeekEnds.j0, hk, h1]
    simp only [dayshiftlaw02_WeekEnds.j0, h1, decide_false, Bool.false_eq_true, if_false]
    rw [Nth_eq 100 (by omega), Nth_eq 100 (by omega), Option.bind_some, Option.bind_some]
    unfold nthOf at h0 ⊢
    by_cases hd0 : days y m 1 = (0, 6)
    · rw [if_pos hd0] at h0; exact absurd h0 (by decide)
    simp only [if_neg hd0] at h0 ⊢
    by_cases c1 : wd < 0
    · rw [if_pos c1] at h0; exact absurd h0 (by decide)
    simp only [if_neg c1] at h0 ⊢
    by_cases c2 : wd ≥ 7
    · rw [if_pos c2] at h0; exact absurd h0 (by decide)
    simp only [if_neg c2] at h0 ⊢
    rw [if_neg (by omega), if_neg (by omega)] at h0
    by_cases c5 : k > 5
    · rw [if_pos c5] at h0; exact absurd h0 (by decide)
    rw [if_neg c5] at h0
    have hd := month_first y m hd0
    have hr := hd.range
    have hl : 28 ≤ len y m := len_pos y m hd.2.2.1 hd.2.2.2.1
    have hl2 := len_bd y m
    have he := month_end hd
    rw [if_neg (show ¬ k = 0 by omega), if_neg (show ¬ k < -5 by omega), if_neg c5, if_neg (show ¬ (4 : Int) = 0 by omega), if_neg (show ¬ (4 : Int) < -5 by omega), if_neg (show ¬ (4 : Int) > 5 by omega), if_neg (show ¬ (5 : Int) = 0 by omega), if_neg (show ¬ (5 : Int) < -5 by omega), if_neg (show ¬ (5 : Int) > 5 by omega)]
    generalize hf : before y + cum y m + 1 = f at *
    generalize hL : len y m = L at *
    have ho := off_bd wd ((f - 1) % 7)
    have hoff : off wd ((f - 1) % 7) = (wd - (f - 1) % 7 + 7) % 7 := rfl
    have hc : 4 ≤ cnt L (off wd ((f - 1) % 7)) ∧ cnt L (off wd ((f - 1) % 7)) ≤ 5 ∧ 7 * cnt L (off wd ((f - 1) % 7)) ≤ L + 6 - off wd ((f - 1) % 7) := by unfold cnt; omega
    unfold nth at h0 ⊢
    rw [Nth_eq 100 (by omega), Nth_eq 100 (by omega), Option.bind_some, Option.bind_some]
    unfold nthOf nth
    rw [hf, hL]
    simp only [if_neg hd0, if_neg c1, if_neg c2]
    simp only [if_neg (show ¬ k < 0 by omega)] at h0 ⊢
    generalize off wd ((f - 1) % 7) = o at *
    generalize cnt L o = c at *
    rw [if_neg (show ¬ k - 1 < 0 by omega)] at h0
    by_cases c6 : k - 1 ≥ c
    · rw [if_pos c6] at h0; exact absurd h0 (by decide)
    simp only [if_neg (show ¬ k - 1 < 0 by omega), if_neg c6]
    rw [RWeekday_eq, weekday_in (by omega) (by omega)]
    have key : ∀ g, g = c → wrap64 (wrap64 (k - g) - 1) = k - g - 1 := by
      intro g hg
      rw [wrap64_id (x := k - g) (by omega) (by omega), wrap64_id (by omega) (by omega)]
    have hwk : (f + o + 7 * (k - 1) - 1) % 7 = wd := by omega
    rcases (show c = 4 ∨ c = 5 by omega) with rfl | rfl
    · rw [key 4 rfl]
      simp [hk, hwk, show ¬ k - 4 - 1 = 0 by omega, show ¬ k - 4 - 1 < -5 by omega, show ¬ 5 < k - 4 - 1 by omega, show k - 4 - 1 < 0 by omega, show ¬ 4 + (k - 4 - 1) < 0 by omega, show ¬ 4 ≤ 4 + (k - 4 - 1) by omega]
      omega
    · rw [key 5 rfl]
      simp [hk, hwk, show ¬ k - 5 - 1 = 0 by omega, show ¬ k - 5 - 1 < -5 by omega, show ¬ 5 < k - 5 - 1 by omega, show k - 5 - 1 < 0 by omega, show ¬ 5 + (k - 5 - 1) < 0 by omega, show ¬ 5 ≤ 5 + (k - 5 - 1) by omega]
      rw [if_pos (by rw [wrap64_id (by omega) (by omega)]; omega), if_pos (by omega)]
  · rw [if_neg h0]
    simp [dayshiftlaw02_WeekEnds.j0, hk]
end Go.Proofs.Ytjfghphblgkoiaa.Pure
