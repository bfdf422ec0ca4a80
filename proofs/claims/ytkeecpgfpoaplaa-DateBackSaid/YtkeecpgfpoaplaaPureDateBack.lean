/-
  A day's date is that of the day, and so is its text; the next day is the next date: for every input and without a condition.
-/
import Derived.Test.YtkeecpgfpoaplaaQDateBackRead
namespace Go.Proofs.Ytkeecpgfpoaplaa.Pure
open Go.RowKit Go.Proofs.Ytkeecpgfpoaplaa.PDateBack Go.Proofs.Ytkeecpgfpoaplaa.QDateBack Go.Proofs.YtkeecpgfpoaplaaW.PrintWords Go.Proofs.YtkeecpgfpoaplaaW.PrintLast Go.Proofs.Ytkeecpgfpoaplaa.MDate Go.Proofs.Ytkeecpgfpoaplaa.MText

theorem RRight_eq (n : Int) : dayshiftref01_Right.f n = some (rightB n) := by
  unfold dayshiftref01_Right.f rightB
  by_cases h : n ≥ 1
  · have : (1 ≤ n) := h
    rw [if_pos h]; simp [this]
  · have : ¬ (1 ≤ n) := h
    rw [if_neg h]; simp [this]
theorem DateBack : dayshiftlaw01_DateBack.Pure := by
  intro n hn
  have hn' : n ≤ 9223372036854775807 := by
    simp [Lit.wf] at hn
    omega
  refine ⟨100, ?_⟩
  have hk : dayshiftlaw01_known.f 100 = some true := known_ok 100 (by omega)
  have hk9 : dayshiftlaw01_known.f 99 = some true := known_ok 99 (by omega)
  unfold dayshiftlaw01_DateBack.f
  by_cases h : 1 ≤ n ∧ n ≤ 3652059
  · obtain ⟨y, m, d, e, hd⟩ := Date_ok 100 (by omega) n h.1 h.2
    obtain ⟨y', m', d', hd', e'⟩ := Text_ok 100 (by omega) n h.1 h.2
    obtain ⟨rfl, rfl, rfl⟩ := hd.uniq hd'
    clear hd'
    have hl := len_bd y m
    have hr : date_Read.f 100 (strOfNums (date_Text.dig8 (y * 10000 + m * 100 + d))) = some (n, 0) := by
      obtain ⟨a1, a2, a3, a4, a5, a6, a7⟩ := hd
      rw [Read_eq 100 (by omega), if_pos (by rw [str_size]; rfl), digits_dig8 _ (by omega) (by omega)]
      show some (days ((y * 10000 + m * 100 + d) / 10000) ((y * 10000 + m * 100 + d) / 100 % 100) ((y * 10000 + m * 100 + d) % 100)) = some (n, 0)
      rw [show (y * 10000 + m * 100 + d) / 10000 = y by omega, show (y * 10000 + m * 100 + d) / 100 % 100 = m by omega, show (y * 10000 + m * 100 + d) % 100 = d by omega, days_of ⟨a1, a2, a3, a4, a5, a6, a7⟩]
    have hdays : date_Days.f 100 y m d = some (n, 0) := by rw [Days_eq 100 (by omega) y m d (by obtain ⟨a1, a2, a3, a4, a5, a6, a7⟩ := hd; omega), days_of hd]
    rw [e]
    simp only [Option.bind_some, hdays, e', hr, if_true, show ((0 : Int) != 0) = false from rfl]
    simp only [dayshiftlaw01_DateBack.j0]
    have hb : y ≤ 9999 ∧ m ≤ 12 ∧ d ≤ 31 := by
      obtain ⟨a1, a2, a3, a4, a5, a6, a7⟩ := hd
      omega
    have hb' : 1 ≤ y ∧ 1 ≤ m ∧ 1 ≤ d := by
      obtain ⟨a1, a2, a3, a4, a5, a6, a7⟩ := hd
      omega
    rw [if_neg (by decide), show wrap64 (n + 1) = n + 1 from wrap64_id (by omega) (by omega), show wrap64 (d + 1) = d + 1 from wrap64_id (by omega) (by omega), show wrap64 (m + 1) = m + 1 from wrap64_id (by omega) (by omega), show wrap64 (y + 1) = y + 1 from wrap64_id (by omega) (by omega)]
    by_cases h2 : n + 1 ≤ 3652059
    · obtain ⟨p, q, r, f, hq⟩ := Date_ok 99 (by omega) (n + 1) (by omega) h2
      rw [f]
      simp only [Option.bind_some, if_true, Len_eq, hk9]
      rcases hd.next hq with ⟨rfl, rfl, rfl⟩ | ⟨rfl, rfl, rfl, ed⟩ | ⟨rfl, rfl, rfl, rfl, rfl⟩
      · simp
      · simp [← ed]
      · simp
    · rw [Date_no 99 (n + 1) (by omega)]
      simp only [Option.bind_some]
      rw [if_neg (by decide), if_pos (by omega), hk9]
      rfl
  · rw [Date_no 100 n h]
    simp only [Option.bind_some]
    rw [if_neg (by decide), RRight_eq, Option.bind_some, show rightB n = false from by rw [rightB]; simp; omega, hk]
    rfl
end Go.Proofs.Ytkeecpgfpoaplaa.Pure
