/-
  Any weekday of any month, counted from its beginning or its end, is what the reference says: for every input and without a condition.
-/
import Derived.Test.YtjfghphblgkoiaaQWeekNthsWeek
import Derived.Test.YtjfghphblgkoiaaQWeekNthsRefDays
import Derived.Test.YtjfghphblgkoiaaQWeekNthsRefWd
namespace Go.Proofs.Ytjfghphblgkoiaa.Pure
open Go.RowKit Go.Proofs.Ytjfghphblgkoiaa.PWeekNths Go.Proofs.Ytjfghphblgkoiaa.QWeekNths Go.Proofs.YtjfghphblgkoiaaW.PrintWords Go.Proofs.YtjfghphblgkoiaaW.PrintLast Go.Proofs.Ytjfghphblgkoiaa.MDate

/-- The days of a weekday, so many, from the first one on. -/
def lst (f o : Int) (c : Nat) : List Int := (List.range c).map fun (j : Nat) => f + o + 7 * (j : Int)
theorem lst_length (f o : Int) (c : Nat) : (lst f o c).length = c := by simp [lst]
theorem lst_succ (f o : Int) (c : Nat) : lst f o (c + 1) = lst f o c ++ [f + o + 7 * (c : Int)] := by simp [lst, List.range_succ]
theorem lst_rd (f o : Int) (c : Nat) (i : Int) (h0 : 0 ≤ i) (h1 : i < c) : rd (lst f o c) i = f + o + 7 * i := by
  unfold rd lst
  rw [List.getD_eq_getElem?_getD, List.getElem?_map, List.getElem?_range (by omega)]
  simp
  omega
theorem RNth_l0 (y m wd q f : Int) (hw : 0 ≤ wd ∧ wd ≤ 6) (hq : q ≠ 0) (hq5 : -5 ≤ q ∧ q ≤ 5) (hf : 1 ≤ f) (hfe : f + len y m ≤ 3652060) (hL : 28 ≤ len y m ∧ len y m ≤ 31) (d : Nat) : ∀ (k : Nat) (i : Int), 0 ≤ i → i ≤ len y m → len y m - i = d → d + 2 < k →
    dayshiftref02_Nth.l0 k y m wd q f (lst f (off wd ((f - 1) % 7)) (cnt i (off wd ((f - 1) % 7))).toNat) i = some (nth f (len y m) wd q) := by
  have ho := off_bd wd ((f - 1) % 7)
  induction d with
  | zero =>
    intro k i h0 h1 hd hk
    obtain ⟨k, rfl⟩ : ∃ q, k = q + 1 := ⟨k - 1, by omega⟩
    have hi : i = len y m := by omega
    simp only [dayshiftref02_Nth.l0]
    rw [RLen_eq k (by omega), Option.bind_some, if_neg (by omega), hi]
    unfold nth
    generalize off wd ((f - 1) % 7) = o at *
    have hc : 0 ≤ cnt (len y m) o ∧ cnt (len y m) o ≤ 5 := by unfold cnt; omega
    generalize hce : cnt (len y m) o = c at *
    simp only [lst_length]
    rw [show ((c.toNat : Nat) : Int) = c from by omega]
    by_cases hq0 : q < 0
    · rw [if_pos hq0, show wrap64 (c + q) = c + q from wrap64_id (by omega) (by omega)]
      simp only [if_pos hq0, hce]
      by_cases c1 : c + q < 0
      · rw [if_pos c1, if_pos c1]
      · rw [if_neg c1, if_neg (by omega), if_pos (by omega), if_pos (by omega), if_neg c1, if_neg (by omega), lst_rd _ _ _ _ (by omega) (by omega)]
    · rw [if_neg hq0, show wrap64 (q - 1) = q - 1 from wrap64_id (by omega) (by omega)]
      simp only [if_neg hq0, hce]
      rw [if_neg (show ¬ q - 1 < 0 by omega), if_neg (show ¬ q - 1 < 0 by omega)]
      by_cases c1 : q - 1 ≥ c
      · rw [if_pos c1, if_pos c1]
      · rw [if_neg c1, if_pos (by omega), if_pos (by omega), if_neg c1, lst_rd _ _ _ _ (by omega) (by omega)]
  | succ d ih =>
    intro k i h0 h1 hd hk
    obtain ⟨k, rfl⟩ : ∃ q, k = q + 1 := ⟨k - 1, by omega⟩
    have := ih k (i + 1) (by omega) (by omega) (by omega) (by omega)
    simp only [dayshiftref02_Nth.l0]
    rw [RLen_eq k (by omega), Option.bind_some, if_pos (by omega)]
    rw [show wrap64 (f + i) = f + i from wrap64_id (by omega) (by omega), show wrap64 (i + 1) = i + 1 from wrap64_id (by omega) (by omega), RWeekday_eq, Option.bind_some, weekday_in (by omega) (by omega)]
    simp only
    by_cases hwd : (f + i - 1) % 7 = wd
    · rw [if_pos hwd, if_pos (by rw [lst_length]; unfold cnt; omega)]
      have e : cnt (i + 1) (off wd ((f - 1) % 7)) = cnt i (off wd ((f - 1) % 7)) + 1 ∧ f + i = f + off wd ((f - 1) % 7) + 7 * cnt i (off wd ((f - 1) % 7)) := by unfold cnt off; omega
      rw [e.1] at this
      have hc : 0 ≤ cnt i (off wd ((f - 1) % 7)) := by unfold cnt; omega
      rw [show (cnt i (off wd ((f - 1) % 7)) + 1).toNat = (cnt i (off wd ((f - 1) % 7))).toNat + 1 by omega, lst_succ, show (((cnt i (off wd ((f - 1) % 7))).toNat : Nat) : Int) = cnt i (off wd ((f - 1) % 7)) by omega, ← e.2] at this
      exact this
    · rw [if_neg hwd]
      have e : cnt (i + 1) (off wd ((f - 1) % 7)) = cnt i (off wd ((f - 1) % 7)) := by unfold cnt off; omega
      rw [e] at this
      exact this
theorem RNth_eq (q : Nat) (hq : 60 ≤ q) (y m wd k : Int) : dayshiftref02_Nth.f q y m wd k = some (nthOf y m wd k) := by
  obtain ⟨q, rfl⟩ : ∃ r, q = r + 1 := ⟨q - 1, by omega⟩
  unfold dayshiftref02_Nth.f nthOf
  rw [RDays_eq (q + 1) (by omega) y m 1 (by omega), Option.bind_some]
  by_cases h : days y m 1 = (0, 6)
  · rw [if_pos h, h]
    rfl
  rw [if_neg h]
  have hd := month_first y m h
  rw [days_of hd]
  simp only [if_true]
  by_cases c1 : wd < 0
  · rw [if_pos c1, if_pos c1]; simp [dayshiftref02_Nth.j0]
  rw [if_neg c1, if_neg c1]
  by_cases c2 : wd > 6
  · rw [if_pos c2, if_pos (show wd ≥ 7 by omega)]; simp [dayshiftref02_Nth.j0]
  rw [if_neg c2, if_neg (show ¬ wd ≥ 7 by omega)]
  by_cases c3 : k = 0
  · rw [if_pos c3, if_pos c3]; simp [dayshiftref02_Nth.j0]
  rw [if_neg c3, if_neg c3]
  by_cases c4 : k < -5
  · rw [if_pos c4, if_pos c4]; simp [dayshiftref02_Nth.j0]
  rw [if_neg c4, if_neg c4]
  by_cases c5 : k > 5
  · rw [if_pos c5]; simp [dayshiftref02_Nth.j0, c5]
  rw [if_neg c5]
  have hr := hd.range
  have hl : 28 ≤ len y m := len_pos y m hd.2.2.1 hd.2.2.2.1
  have hl2 := len_bd y m
  have he := month_end hd
  have := RNth_l0 y m wd k (before y + cum y m + 1) (by omega) c3 (by omega) (by omega) (by omega) (by omega) (len y m).toNat q 0 (by omega) (by omega) (by omega) (by omega)
  have e0 : (cnt 0 (off wd ((before y + cum y m + 1 - 1) % 7))).toNat = 0 := by have := off_bd wd ((before y + cum y m + 1 - 1) % 7); unfold cnt; omega
  rw [e0] at this
  simp only [dayshiftref02_Nth.j0, c5, decide_false, Bool.false_eq_true, if_false]
  exact this
theorem WeekNths : dayshiftlaw02_WeekNths.Pure := by
  intro y m wd k _ _ _ _
  refine ⟨100, ?_⟩
  unfold dayshiftlaw02_WeekNths.f
  rw [Nth_eq 100 (by omega), RNth_eq 100 (by omega), known_ok 100 (by omega)]
  simp
end Go.Proofs.Ytjfghphblgkoiaa.Pure
