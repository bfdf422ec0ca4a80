/-
  What the reference's texts of days, read, come to. No conditions beyond those that each theorem names.
-/
import Derived.Test.YtkeecpgfpoaplaaQDateTextsRefDays
import Derived.Test.YtkeecpgfpoaplaaQDateTextsRead
namespace Go.Proofs.Ytkeecpgfpoaplaa.QDateTexts
open Go.RowKit Go.Proofs.Ytkeecpgfpoaplaa.PDateTexts Go.Proofs.YtkeecpgfpoaplaaW.PrintWords Go.Proofs.YtkeecpgfpoaplaaW.PrintLast Go.Proofs.Ytkeecpgfpoaplaa.MDate Go.Proofs.Ytkeecpgfpoaplaa.MText
set_option linter.unusedVariables false
set_option linter.unusedSimpArgs false

theorem Number_l0 (s : ByteArray) (d : Nat) : ∀ (k : Nat) (i acc : Int), 0 ≤ i → i ≤ 18 → (s.size : Int) - i = d → d < k → 0 ≤ acc → (acc + 1) ≤ 10 ^ i.toNat → s.size ≤ 18 →
    dayshiftref01_Number.l0 k s acc i = some (match digitsFrom s d i acc with | none => (0, false) | some v => (v, decide ((s.size : Int) > 0))) := by
  induction d with
  | zero =>
    intro k i acc h0 h18 h1 hk ha hb hsz
    obtain ⟨k, rfl⟩ : ∃ q, k = q + 1 := ⟨k - 1, by omega⟩
    simp only [dayshiftref01_Number.l0, digitsFrom]
    rw [if_neg (by omega)]
  | succ d ih =>
    intro k i acc h0 h18 h1 hk ha hb hsz
    obtain ⟨k, rfl⟩ : ∃ q, k = q + 1 := ⟨k - 1, by omega⟩
    have hi17 : i.toNat ≤ 17 := by omega
    have hr := bt_range s i
    have hp : (10 : Int) ^ i.toNat ≤ 10 ^ 17 := by
      have h' := Nat.pow_le_pow_right (n := 10) (by omega) (show i.toNat ≤ 17 by omega)
      exact_mod_cast h'
    have hp2 : (10 : Int) ^ 17 = 100000000000000000 := by decide
    have hp3 : (10 : Int) ^ (i + 1).toNat = 10 ^ i.toNat * 10 := by rw [show (i + 1).toNat = i.toNat + 1 by omega, Int.pow_succ]
    simp only [dayshiftref01_Number.l0, digitsFrom]
    rw [if_pos (by omega), if_pos h0]
    by_cases c1 : bt s i < 48
    · rw [if_pos c1, if_pos c1]
    by_cases c2 : bt s i > 57
    · rw [if_neg c1, if_pos c2, if_neg c1, if_pos c2]
    rw [if_neg c1, if_neg c2, if_neg c1, if_neg c2, if_neg (by omega)]
    rw [show wrap64 (wrap64 (10 * acc) + (bt s i - 48) % 256) = 10 * acc + (bt s i - 48) from by rw [wrap64_id (x := 10 * acc) (by omega) (by omega), wrap64_id (by omega) (by omega)]; omega, show wrap64 (i + 1) = i + 1 from wrap64_id (by omega) (by omega)]
    exact ih k (i + 1) _ (by omega) (by omega) (by omega) (by omega) (by omega) (by rw [hp3]; omega) hsz
theorem Number_ends (s : ByteArray) (hsz : 18 < s.size) (hs2 : s.size ≤ 140737488351232) (d : Nat) : ∀ (k : Nat) (i acc : Int), 0 ≤ i → 18 - i = d → d < k →
    dayshiftref01_Number.l0 k s acc i = some (0, false) := by
  induction d with
  | zero =>
    intro k i acc h0 h1 hk
    obtain ⟨k, rfl⟩ : ∃ q, k = q + 1 := ⟨k - 1, by omega⟩
    simp only [dayshiftref01_Number.l0]
    rw [if_pos (by omega), if_pos h0]
    split
    · rfl
    split
    · rfl
    rw [if_pos (by omega)]
  | succ d ih =>
    intro k i acc h0 h1 hk
    obtain ⟨k, rfl⟩ : ∃ q, k = q + 1 := ⟨k - 1, by omega⟩
    simp only [dayshiftref01_Number.l0]
    rw [if_pos (by omega), if_pos h0]
    split
    · rfl
    split
    · rfl
    rw [if_neg (by omega), show wrap64 (i + 1) = i + 1 from wrap64_id (by omega) (by omega)]
    exact ih k (i + 1) _ (by omega) (by omega) (by omega)
theorem Number_eq (k : Nat) (hk : 20 ≤ k) (s : ByteArray) (hs : s.size ≤ 140737488351232) :
    dayshiftref01_Number.f k s = some (if s.size ≤ 18 then (match digitsFrom s s.size 0 0 with | none => (0, false) | some v => (v, decide ((s.size : Int) > 0))) else (0, false)) := by
  unfold dayshiftref01_Number.f
  by_cases h : s.size ≤ 18
  · rw [if_pos h]
    exact Number_l0 s s.size k 0 0 (by omega) (by omega) (by omega) (by omega) (by omega) (by decide) h
  · rw [if_neg h]
    exact Number_ends s (by omega) hs 18 k 0 0 (by omega) (by omega) (by omega)
theorem RRead_eq (k : Nat) (hk : 40 ≤ k) (s : ByteArray) (hs : s.size ≤ 140737488351232) : dayshiftref01_Read.f k s = some (if s.size = 8 then dayOf (digitsFrom s 8 0 0) else (0, 20)) := by
  unfold dayshiftref01_Read.f
  rw [Number_eq k (by omega) s hs, Option.bind_some]
  by_cases h8 : s.size = 8
  · rw [if_pos h8, if_pos (show s.size ≤ 18 by omega), h8]
    rcases hd : digitsFrom s 8 0 0 with _ | v
    · rfl
    · have hb := digitsFrom_bd s 8 0 0 v (by omega) hd
      have hp : (10 : Int) ^ 8 = 100000000 := by decide
      simp only [show decide (((8 : Nat) : Int) > 0) = true from rfl, if_true]
      rw [if_pos (show ((8 : Nat) : Int) = 8 from rfl), Int.tdiv_eq_ediv_of_nonneg hb.1, Int.tdiv_eq_ediv_of_nonneg hb.1, wrap64_id (by omega) (by omega), wrap64_id (by omega) (by omega), Int.tmod_eq_emod_of_nonneg (by omega), Int.tmod_eq_emod_of_nonneg hb.1, RDays_eq k (by omega) _ _ _ (by omega)]
      rfl
  · rw [if_neg h8]
    generalize (if s.size ≤ 18 then (match digitsFrom s s.size 0 0 with | none => ((0 : Int), false) | some v => (v, decide ((s.size : Int) > 0))) else (0, false)) = r
    have h8' : ¬ (s.size : Int) = 8 := by omega
    rw [if_neg h8']
    split <;> rfl
end Go.Proofs.Ytkeecpgfpoaplaa.QDateTexts
