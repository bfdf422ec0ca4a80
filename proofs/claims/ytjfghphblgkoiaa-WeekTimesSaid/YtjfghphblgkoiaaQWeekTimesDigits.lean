/-
  What the reference's digits of a number come to: so many as are asked for, where the number has no more. No conditions beyond those that each theorem names.
-/
import Derived.Test.YtjfghphblgkoiaaQWeekTimesDate
import Derived.Test.YtjfghphblgkoiaaMText
namespace Go.Proofs.Ytjfghphblgkoiaa.QWeekTimes
open Go.RowKit Go.Proofs.Ytjfghphblgkoiaa.PWeekTimes Go.Proofs.YtjfghphblgkoiaaW.PrintWords Go.Proofs.YtjfghphblgkoiaaW.PrintLast Go.Proofs.Ytjfghphblgkoiaa.MDate Go.Proofs.Ytjfghphblgkoiaa.MText
set_option linter.unusedVariables false
set_option linter.unusedSimpArgs false

theorem dg_step (k : Nat) (n least : Int) (xs : List Int) (h0 : 0 ≤ n) (h1 : n ≤ 9223372036854775807) (hl : (xs.length : Int) < least) (h9 : xs.length ≤ 1000) :
    dayshiftref01_Digits.l0 (k + 1) n least xs = dayshiftref01_Digits.l0 k (n / 10) least (xs ++ [48 + n % 10]) := by
  have e : (wrap64 (48 + (Int.tmod n 10))) % 256 = 48 + n % 10 := by
    rw [Int.tmod_eq_emod_of_nonneg h0, wrap64_id (by omega) (by omega)]
    omega
  have e2 : wrap64 (Int.tdiv n 10) = n / 10 := by
    rw [Int.tdiv_eq_ediv_of_nonneg h0, wrap64_id (by omega) (by omega)]
  simp only [dayshiftref01_Digits.l0]
  rw [e, e2]
  by_cases h : n > 0
  · rw [if_pos h, if_pos (by omega)]
  · rw [if_neg h, if_pos hl, if_pos (by omega)]
theorem dg_end (k : Nat) (n least : Int) (xs : List Int) (h0 : n = 0) (hl : ¬ (xs.length : Int) < least) :
    dayshiftref01_Digits.l0 (k + 1) n least xs = dayshiftref01_Digits.l1 k xs [] (wrap64 ((xs.length : Int) - 1)) := by
  simp only [dayshiftref01_Digits.l0]
  rw [if_neg (by omega), if_neg hl]
theorem dg_rev (k : Nat) (xs ys : List Int) (i : Int) (h0 : 0 ≤ i) (h1 : i < xs.length) (h9 : ys.length ≤ 1000) (h8 : xs.length ≤ 1000) :
    dayshiftref01_Digits.l1 (k + 1) xs ys i = dayshiftref01_Digits.l1 k xs (ys ++ [rd xs i]) (i - 1) := by
  simp only [dayshiftref01_Digits.l1]
  rw [if_pos (by omega), if_pos h0, if_pos h1, if_pos (by omega), wrap64_id (by omega) (by omega)]
theorem dg_rev_end (k : Nat) (xs ys : List Int) : dayshiftref01_Digits.l1 (k + 1) xs ys (-1) = some (strOfNums ys) := by
  simp only [dayshiftref01_Digits.l1]
  rw [if_neg (by omega)]
theorem Digits2 (k : Nat) (hk : 8 ≤ k) (n : Int) (h0 : 0 ≤ n) (h1 : n ≤ 99) : dayshiftref01_Digits.f k n 2 = some (strOfNums [48 + n / 10, 48 + n % 10]) := by
  obtain ⟨k, rfl⟩ : ∃ q, k = q + 8 := ⟨k - 8, by omega⟩
  unfold dayshiftref01_Digits.f
  rw [dg_step (k + 7) n 2 [] h0 (by omega) (by simp) (by simp), dg_step (k + 6) _ 2 _ (by omega) (by omega) (by simp) (by simp), dg_end (k + 5) _ _ _ (by omega) (by simp)]
  simp only [List.nil_append, List.cons_append, List.length_cons, List.length_nil]
  rw [wrap64_id (by omega) (by omega)]
  rw [show (((0 + 1 + 1 : Nat) : Int) - 1) = 1 from by omega, dg_rev _ _ _ _ (by omega) (by simp) (by simp) (by simp), show (1 : Int) - 1 = 0 from rfl, dg_rev _ _ _ _ (by omega) (by simp) (by simp) (by simp), show (0 : Int) - 1 = -1 from rfl, dg_rev_end]
  simp only [rd, List.nil_append, List.cons_append]
  congr 2
  simp
  omega
theorem Digits4 (k : Nat) (hk : 10 ≤ k) (n : Int) (h0 : 0 ≤ n) (h1 : n ≤ 9999) : dayshiftref01_Digits.f k n 4 = some (strOfNums [48 + n / 1000, 48 + n / 100 % 10, 48 + n / 10 % 10, 48 + n % 10]) := by
  obtain ⟨k, rfl⟩ : ∃ q, k = q + 10 := ⟨k - 10, by omega⟩
  unfold dayshiftref01_Digits.f
  rw [dg_step (k + 9) n 4 [] h0 (by omega) (by simp) (by simp), dg_step (k + 8) _ 4 _ (by omega) (by omega) (by simp) (by simp), dg_step (k + 7) _ 4 _ (by omega) (by omega) (by simp) (by simp), dg_step (k + 6) _ 4 _ (by omega) (by omega) (by simp) (by simp), dg_end (k + 5) _ _ _ (by omega) (by simp)]
  simp only [List.nil_append, List.cons_append, List.length_cons, List.length_nil]
  rw [wrap64_id (by omega) (by omega)]
  rw [show (((0 + 1 + 1 + 1 + 1 : Nat) : Int) - 1) = 3 from by omega, dg_rev _ _ _ _ (by omega) (by simp) (by simp) (by simp), show (3 : Int) - 1 = 2 from rfl, dg_rev _ _ _ _ (by omega) (by simp) (by simp) (by simp), show (2 : Int) - 1 = 1 from rfl, dg_rev _ _ _ _ (by omega) (by simp) (by simp) (by simp), show (1 : Int) - 1 = 0 from rfl, dg_rev _ _ _ _ (by omega) (by simp) (by simp) (by simp), show (0 : Int) - 1 = -1 from rfl, dg_rev_end]
  simp only [rd, List.nil_append, List.cons_append]
  congr 2
  simp
  omega
end Go.Proofs.Ytjfghphblgkoiaa.QWeekTimes
