/-
  What the program's functions of package week come to, as numbers. No conditions beyond those that each theorem names.
-/
import Derived.Test.YtpcjbnaggeiaoaaDoorQCalMovedDate6
import Derived.Test.YtpcjbnaggeiaoaaDoorMWeek
namespace Go.Proofs.YtpcjbnaggeiaoaaDoor.QCalMoved
open Go.RowKit Go.Proofs.YtpcjbnaggeiaoaaDoor.PCalMoved Go.Proofs.YtpcjbnaggeiaoaaDoorW.PrintWords Go.Proofs.YtpcjbnaggeiaoaaDoorW.PrintLast Go.Proofs.YtpcjbnaggeiaoaaDoor.MDate
set_option linter.unusedVariables false
set_option linter.unusedSimpArgs false

theorem weekday_in {n : Int} (h1 : 1 ≤ n) (h2 : n ≤ 3652059) : weekday n = ((n - 1) % 7, 0) := by unfold weekday; rw [if_pos ⟨h1, h2⟩]
/-- The first day of a month, and how many it has. -/
theorem month_first (y m : Int) (h : ¬ days y m 1 = (0, 6)) : IsDate (before y + cum y m + 1) y m 1 := by
  rcases days_cases y m 1 with e | ⟨n, e, hd⟩
  · exact absurd e h
  · have : n = before y + cum y m + 1 := hd.2.2.2.2.2.2
    exact this ▸ hd
theorem month_end {y m d n : Int} (h : IsDate n y m d) : n - d + len y m ≤ 3652059 := by
  obtain ⟨h1, h2, h3, h4, h5, h6, rfl⟩ := h
  have : IsDate (before y + cum y m + len y m) y m (len y m) := ⟨h1, h2, h3, h4, by omega, by omega, rfl⟩
  have := this.range
  omega
/-- What Nth comes to. -/
def nthOf (y m wd k : Int) : Int × Int :=
  if days y m 1 = (0, 6) then (0, 6) else if wd < 0 then (0, 1) else if wd ≥ 7 then (0, 1) else if k = 0 then (0, 1) else if k < -5 then (0, 1) else if k > 5 then (0, 1) else nth (before y + cum y m + 1) (len y m) wd k
theorem Nth_eq (q : Nat) (hq : 20 ≤ q) (y m wd k : Int) : week_Nth.f q y m wd k = some (nthOf y m wd k) := by
  unfold week_Nth.f nthOf
  rw [Days_eq q (by omega) y m 1 (by omega), Option.bind_some]
  by_cases h : days y m 1 = (0, 6)
  · rw [if_pos h, h]
    rfl
  rw [if_neg h]
  have hd := month_first y m h
  rw [days_of hd]
  simp only [if_true]
  split
  · rfl
  split
  · rfl
  split
  · rfl
  split
  · rfl
  split
  · rfl
  rename_i c1 c2 c3 c4 c5
  have hr := hd.range
  have hl : 28 ≤ len y m := len_pos y m hd.2.2.1 hd.2.2.2.1
  have hl2 := len_bd y m
  have he := month_end hd
  have e1 : wrap64 (wrap64 (before y + cum y m + 1 + len y m) - 1) = before y + cum y m + len y m := by
    rw [wrap64_id (x := before y + cum y m + 1 + len y m) (by omega) (by omega), wrap64_id (by omega) (by omega)]; omega
  rw [Len_eq, Option.bind_some, Weekday_eq, Option.bind_some, weekday_in (by omega) (by omega), e1]
  generalize hf : before y + cum y m = f at *
  generalize len y m = L at *
  rw [Weekday_eq, weekday_in (by omega) (by omega)]
  simp only [Option.bind_some]
  have obd := off_bd wd ((f + 1 - 1) % 7)
  unfold nth
  by_cases hk : k < 0
  · rw [if_pos hk]
    have e2 : wrap64 (wrap64 (f + L - Int.tmod (wrap64 (wrap64 ((f + L - 1) % 7 - wd) + 7)) 7) + wrap64 (wrap64 (k + 1) * 7)) = f + 1 + off wd ((f + 1 - 1) % 7) + 7 * (cnt L (off wd ((f + 1 - 1) % 7)) + k) := by
      have a : wrap64 (wrap64 ((f + L - 1) % 7 - wd) + 7) = (f + L - 1) % 7 - wd + 7 := by rw [wrap64_id (x := (f + L - 1) % 7 - wd) (by omega) (by omega), wrap64_id (by omega) (by omega)]
      have b : wrap64 (wrap64 (k + 1) * 7) = (k + 1) * 7 := by rw [wrap64_id (x := k + 1) (by omega) (by omega), wrap64_id (by omega) (by omega)]
      rw [a, b, Int.tmod_eq_emod_of_nonneg (by omega), wrap64_id (x := f + L - _) (by omega) (by omega), wrap64_id (by omega) (by omega)]
      unfold off cnt
      omega
    rw [e2]
    simp only [if_pos hk]
    generalize ho : off wd ((f + 1 - 1) % 7) = o at *
    unfold cnt
    by_cases c6 : (L + 6 - o) / 7 + k < 0
    · rw [if_pos (by omega), if_pos c6]
    · rw [if_neg (by omega), if_neg (by omega), if_neg c6, if_neg (by omega)]
  · rw [if_neg hk]
    have e2 : wrap64 (wrap64 (f + 1 + Int.tmod (wrap64 (wrap64 (wd - (f + 1 - 1) % 7) + 7)) 7) + wrap64 (wrap64 (k - 1) * 7)) = f + 1 + off wd ((f + 1 - 1) % 7) + 7 * (k - 1) := by
      have a : wrap64 (wrap64 (wd - (f + 1 - 1) % 7) + 7) = wd - (f + 1 - 1) % 7 + 7 := by rw [wrap64_id (x := wd - (f + 1 - 1) % 7) (by omega) (by omega), wrap64_id (by omega) (by omega)]
      have b : wrap64 (wrap64 (k - 1) * 7) = (k - 1) * 7 := by rw [wrap64_id (x := k - 1) (by omega) (by omega), wrap64_id (by omega) (by omega)]
      rw [a, b, Int.tmod_eq_emod_of_nonneg (by omega), wrap64_id (x := f + 1 + _) (by omega) (by omega), wrap64_id (by omega) (by omega)]
      unfold off
      omega
    rw [e2]
    simp only [if_neg hk]
    generalize ho : off wd ((f + 1 - 1) % 7) = o at *
    unfold cnt
    by_cases c6 : k - 1 ≥ (L + 6 - o) / 7
    · rw [if_neg (by omega), if_pos (by omega), if_neg (by omega), if_pos c6]
    · rw [if_neg (by omega), if_neg (by omega), if_neg (by omega), if_neg c6]
end Go.Proofs.YtpcjbnaggeiaoaaDoor.QCalMoved
