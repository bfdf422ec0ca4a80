/-
  What the program's texts of days, read, come to. No conditions beyond those that each theorem names.
-/
import Derived.Test.YtkeecpgfpoaplaaQDateBackDate
import Derived.Test.YtkeecpgfpoaplaaMText
namespace Go.Proofs.Ytkeecpgfpoaplaa.QDateBack
open Go.RowKit Go.Proofs.Ytkeecpgfpoaplaa.PDateBack Go.Proofs.YtkeecpgfpoaplaaW.PrintWords Go.Proofs.YtkeecpgfpoaplaaW.PrintLast Go.Proofs.Ytkeecpgfpoaplaa.MDate Go.Proofs.Ytkeecpgfpoaplaa.MText
set_option linter.unusedVariables false
set_option linter.unusedSimpArgs false

/-- The number that digits tell, from a place on; none: a byte is no digit. -/
def digitsFrom (s : ByteArray) : Nat → Int → Int → Option Int
  | 0, _, acc => some acc
  | d + 1, i, acc => if bt s i < 48 then none else if bt s i > 57 then none else digitsFrom s d (i + 1) (10 * acc + (bt s i - 48))
/-- What eight digits' number comes to. -/
def dayOf : Option Int → Int × Int
  | none => (0, 20)
  | some v => days (v / 10000) (v / 100 % 100) (v % 100)
theorem digitsFrom_bd (s : ByteArray) (d : Nat) : ∀ (i acc v : Int), 0 ≤ acc → digitsFrom s d i acc = some v → 0 ≤ v ∧ v < (acc + 1) * 10 ^ d := by
  induction d with
  | zero =>
    intro i acc v h0 h
    simp only [digitsFrom, Option.some.injEq] at h
    subst h
    simp
    omega
  | succ d ih =>
    intro i acc v h0 h
    simp only [digitsFrom] at h
    split at h
    · cases h
    split at h
    · cases h
    rename_i h1 h2
    have := ih (i + 1) _ v (by omega) h
    refine ⟨this.1, Int.lt_of_lt_of_le this.2 ?_⟩
    have e : (acc + 1) * 10 ^ (d + 1) = ((acc + 1) * 10) * 10 ^ d := by rw [Int.pow_succ]; rw [Int.mul_comm ((10 : Int) ^ d) 10, ← Int.mul_assoc]
    rw [e]
    exact Int.mul_le_mul_of_nonneg_right (by omega) (Int.le_of_lt (Int.pow_pos (by omega)))
theorem Read_l0 (s : ByteArray) (hs : s.size = 8) (d : Nat) : ∀ (k : Nat) (i acc : Int), 0 ≤ i → 8 - i = d → d + 20 ≤ k → 0 ≤ acc → (acc + 1) * 10 ^ d ≤ 100000000 →
    date_Read.l0 k s acc i = some (dayOf (digitsFrom s d i acc)) := by
  induction d with
  | zero =>
    intro k i acc h0 h1 hk ha hb
    obtain ⟨k, rfl⟩ : ∃ q, k = q + 1 := ⟨k - 1, by omega⟩
    simp at hb
    simp only [date_Read.l0, digitsFrom, dayOf]
    rw [if_neg (by omega), Int.tdiv_eq_ediv_of_nonneg ha, Int.tdiv_eq_ediv_of_nonneg ha, wrap64_id (by omega) (by omega), wrap64_id (by omega) (by omega), Int.tmod_eq_emod_of_nonneg (by omega), Int.tmod_eq_emod_of_nonneg ha, Days_eq k (by omega) _ _ _ (by omega)]
    rfl
  | succ d ih =>
    intro k i acc h0 h1 hk ha hb
    obtain ⟨k, rfl⟩ : ∃ q, k = q + 1 := ⟨k - 1, by omega⟩
    have hr := bt_range s i
    have hacc : acc + 1 ≤ 100000000 := by
      have : (1 : Int) ≤ 10 ^ (d + 1) := Int.pow_pos (by omega)
      have := Int.mul_le_mul_of_nonneg_left this (show 0 ≤ acc + 1 by omega)
      omega
    simp only [date_Read.l0, digitsFrom]
    rw [if_pos (by omega), if_pos h0, if_pos (by omega)]
    by_cases c1 : bt s i < 48
    · rw [if_pos c1, if_pos c1]; rfl
    by_cases c2 : bt s i > 57
    · rw [if_neg c1, if_pos c2, if_neg c1, if_pos c2]; rfl
    rw [if_neg c1, if_neg c2, if_neg c1, if_neg c2]
    rw [show wrap64 (wrap64 (acc * 10) + (bt s i - 48) % 256) = 10 * acc + (bt s i - 48) from by rw [wrap64_id (x := acc * 10) (by omega) (by omega), wrap64_id (by omega) (by omega)]; omega, show wrap64 (i + 1) = i + 1 from wrap64_id (by omega) (by omega)]
    refine ih k (i + 1) _ (by omega) (by omega) (by omega) (by omega) (Int.le_trans ?_ hb)
    have e : (acc + 1) * 10 ^ (d + 1) = ((acc + 1) * 10) * 10 ^ d := by rw [Int.pow_succ]; rw [Int.mul_comm ((10 : Int) ^ d) 10, ← Int.mul_assoc]
    rw [e]
    exact Int.mul_le_mul_of_nonneg_right (by omega) (Int.le_of_lt (Int.pow_pos (by omega)))
theorem Read_eq (k : Nat) (hk : 40 ≤ k) (s : ByteArray) : date_Read.f k s = some (if s.size = 8 then dayOf (digitsFrom s 8 0 0) else (0, 20)) := by
  unfold date_Read.f
  by_cases h : s.size = 8
  · rw [if_pos (by omega), if_pos h, Read_l0 s h 8 k 0 0 (by omega) (by omega) (by omega) (by omega) (by decide)]
  · rw [if_neg (by omega), if_neg h]
theorem dig8_range (n : Int) : ∀ x ∈ date_Text.dig8 n, 0 ≤ x ∧ x ≤ 255 := by
  intro x hx
  simp only [date_Text.dig8, List.mem_cons, List.not_mem_nil, or_false] at hx
  omega
/-- Eight digits, read. -/
theorem digits_dig8 (n : Int) (h0 : 0 ≤ n) (h1 : n ≤ 99999999) : digitsFrom (strOfNums (date_Text.dig8 n)) 8 0 0 = some n := by
  have hr := dig8_range n
  have hb : ∀ (i : Int), 0 ≤ i → i < 8 → bt (strOfNums (date_Text.dig8 n)) i = (date_Text.dig8 n).getD i.toNat 0 := fun i a b => bt_str _ i a (by simpa [date_Text.dig8] using b) hr
  simp only [digitsFrom, hb 0 (by omega) (by omega), hb (0 + 1) (by omega) (by omega), hb (0 + 1 + 1) (by omega) (by omega), hb (0 + 1 + 1 + 1) (by omega) (by omega), hb (0 + 1 + 1 + 1 + 1) (by omega) (by omega), hb (0 + 1 + 1 + 1 + 1 + 1) (by omega) (by omega), hb (0 + 1 + 1 + 1 + 1 + 1 + 1) (by omega) (by omega), hb (0 + 1 + 1 + 1 + 1 + 1 + 1 + 1) (by omega) (by omega)]
  simp only [date_Text.dig8, show ((0 : Int) + 1).toNat = 1 from rfl, show ((0 : Int) + 1 + 1).toNat = 2 from rfl, show ((0 : Int) + 1 + 1 + 1).toNat = 3 from rfl, show ((0 : Int) + 1 + 1 + 1 + 1).toNat = 4 from rfl, show ((0 : Int) + 1 + 1 + 1 + 1 + 1).toNat = 5 from rfl, show ((0 : Int) + 1 + 1 + 1 + 1 + 1 + 1).toNat = 6 from rfl, show ((0 : Int) + 1 + 1 + 1 + 1 + 1 + 1 + 1).toNat = 7 from rfl, show (0 : Int).toNat = 0 from rfl, List.getD_cons_zero, List.getD_cons_succ]
  iterate 16 rw [if_neg (by omega)]
  congr 1
  omega
theorem Text_ok (k : Nat) (hk : 20 ≤ k) (n : Int) (h1 : 1 ≤ n) (h2 : n ≤ 3652059) : ∃ y m d, IsDate n y m d ∧ date_Text.f k n = some (strOfNums (date_Text.dig8 (y * 10000 + m * 100 + d)), 0) := by
  obtain ⟨y, m, d, e, hd⟩ := Date_ok k hk n h1 h2
  refine ⟨y, m, d, hd, ?_⟩
  have hl := len_bd y m
  obtain ⟨a1, a2, a3, a4, a5, a6, a7⟩ := hd
  unfold date_Text.f
  rw [e, Option.bind_some]
  show (if (0 : Int) = 0 then (if 0 ≤ y ∧ y ≤ 9999 ∧ 0 ≤ m ∧ m ≤ 99 ∧ 0 ≤ d ∧ d ≤ 99 then some (strOfNums (date_Text.dig8 (y * 10000 + m * 100 + d)), (0 : Int)) else none) else some ((⟨#[]⟩ : ByteArray), (0 : Int))) = _
  rw [if_pos rfl, if_pos ⟨by omega, by omega, by omega, by omega, by omega, by omega⟩]
theorem Text_no (k : Nat) (n : Int) (h : ¬ (1 ≤ n ∧ n ≤ 3652059)) : date_Text.f k n = some ((⟨#[]⟩ : ByteArray), 6) := by
  unfold date_Text.f
  rw [Date_no k n h]
  rfl
end Go.Proofs.Ytkeecpgfpoaplaa.QDateBack
