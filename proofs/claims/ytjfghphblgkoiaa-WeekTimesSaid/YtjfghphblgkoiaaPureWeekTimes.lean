/-
  Any minutes as a text, and any text as minutes, are what the reference says; there and back: for every input and without a condition.
-/
import Derived.Test.YtjfghphblgkoiaaQWeekTimesDigits
namespace Go.Proofs.Ytjfghphblgkoiaa.Pure
open Go.RowKit Go.Proofs.Ytjfghphblgkoiaa.PWeekTimes Go.Proofs.Ytjfghphblgkoiaa.QWeekTimes Go.Proofs.YtjfghphblgkoiaaW.PrintWords Go.Proofs.YtjfghphblgkoiaaW.PrintLast Go.Proofs.Ytjfghphblgkoiaa.MDate Go.Proofs.Ytjfghphblgkoiaa.MText

theorem RText_eq (k : Nat) (hk : 20 ≤ k) (m : Int) : dayshiftref02_Text.f k m = week_Text.f m := by
  unfold dayshiftref02_Text.f week_Text.f dayshiftref02_Right.f
  by_cases h : 0 ≤ m ∧ m < 1440
  · rw [if_pos (show m ≥ 0 from h.1), if_pos h, Option.bind_some, if_pos (by simp; exact h.2), Int.tdiv_eq_ediv_of_nonneg h.1, Int.tmod_eq_emod_of_nonneg h.1, wrap64_id (by omega) (by omega), Digits2 k (by omega) _ (by omega) (by omega)]
    simp only [Option.bind_some]
    rw [if_pos (by rw [str_size]; simp), Digits2 k (by omega) _ (by omega) (by omega)]
    simp only [Option.bind_some]
    rw [show (⟨#[58]⟩ : ByteArray) = strOfNums [58] from rfl, str_app, if_pos (by rw [str_size, str_size]; simp), str_app]
    rfl
  · rw [if_neg h]
    by_cases h0 : m ≥ 0
    · rw [if_pos h0, Option.bind_some, if_neg (by simp; omega)]
    · rw [if_neg h0]
      rfl
/-- Two digits. -/
theorem bt_extract (s : ByteArray) (a b : Nat) (hb : b ≤ s.size) (i : Int) (h0 : 0 ≤ i) (h1 : i < (b : Int) - a) : bt (s.extract a b) i = bt s (a + i) := by
  have hi : i.toNat < (s.extract a b).size := by simp [ByteArray.size_extract]; omega
  have hj : ((a : Int) + i).toNat < s.size := by omega
  unfold bt
  rw [dif_pos hi, dif_pos hj]
  congr 2
  rw [ByteArray.getElem_extract]
  congr 1
  omega
theorem num2 (k : Nat) (hk : 5 ≤ k) (s : ByteArray) (hs : s.size = 2) : dayshiftref01_Number.f k s = some (if bt s 0 < 48 ∨ 57 < bt s 0 then (0, false) else if bt s 1 < 48 ∨ 57 < bt s 1 then (0, false) else ((bt s 0 - 48) * 10 + (bt s 1 - 48), true)) := by
  obtain ⟨k, rfl⟩ : ∃ q, k = q + 3 := ⟨k - 3, by omega⟩
  have r0 := bt_range s 0
  have r1 := bt_range s 1
  unfold dayshiftref01_Number.f
  simp only [dayshiftref01_Number.l0]
  rw [if_pos (by omega), if_pos (by omega)]
  by_cases c0 : bt s 0 < 48
  · rw [if_pos c0, if_pos (.inl c0)]
  by_cases c1 : bt s 0 > 57
  · rw [if_neg c0, if_pos c1, if_pos (.inr c1)]
  rw [if_neg c0, if_neg c1, if_neg (show ¬ (0 : Int) ≥ 18 by omega), if_neg (show ¬ (bt s 0 < 48 ∨ 57 < bt s 0) by omega)]
  rw [show wrap64 (0 + 1) = 1 from by rw [wrap64_id (by omega) (by omega)]; rfl, if_pos (by omega), if_pos (by omega)]
  by_cases c2 : bt s 1 < 48
  · rw [if_pos c2, if_pos (.inl c2)]
  by_cases c3 : bt s 1 > 57
  · rw [if_neg c2, if_pos c3, if_pos (.inr c3)]
  rw [if_neg c2, if_neg c3, if_neg (show ¬ (1 : Int) ≥ 18 by omega), if_neg (show ¬ (bt s 1 < 48 ∨ 57 < bt s 1) by omega)]
  rw [show wrap64 (1 + 1) = 2 from by rw [wrap64_id (by omega) (by omega)]; rfl, if_neg (by omega)]
  have e : wrap64 (wrap64 (10 * wrap64 (wrap64 (10 * 0) + (bt s 0 - 48) % 256)) + (bt s 1 - 48) % 256) = (bt s 0 - 48) * 10 + (bt s 1 - 48) := by
    rw [wrap64_id (x := 10 * 0) (by omega) (by omega), wrap64_id (x := 10 * 0 + (bt s 0 - 48) % 256) (by omega) (by omega), wrap64_id (x := 10 * _) (by omega) (by omega), wrap64_id (by omega) (by omega)]
    omega
  rw [e, hs]
  rfl
theorem RRead_eq (k : Nat) (hk : 20 ≤ k) (s : ByteArray) : dayshiftref02_Read.f k s = week_Read.f s := by
  obtain ⟨k, rfl⟩ : ∃ q, k = q + 2 := ⟨k - 2, by omega⟩
  unfold dayshiftref02_Read.f week_Read.f
  by_cases h5 : (s.size : Int) = 5
  · rw [if_pos h5, if_pos h5, if_pos (by omega)]
    by_cases h2 : bt s 2 = 58
    · rw [if_pos h2]
      simp only [dayshiftref02_Read.j0, h2, show ((58 : Int) != 58) = false from rfl, Bool.false_eq_true, if_false]
      rw [if_pos (by omega), if_pos (by omega), num2 (k + 1) (by omega) _ (by simp [ByteArray.size_extract]; omega), Option.bind_some, if_pos (by omega), num2 (k + 1) (by omega) _ (by simp [ByteArray.size_extract]; omega), Option.bind_some]
      rw [bt_extract s 0 2 (by omega) 0 (by omega) (by omega), bt_extract s 0 2 (by omega) 1 (by omega) (by omega), bt_extract s 3 s.size (by omega) 0 (by omega) (by omega), bt_extract s 3 s.size (by omega) 1 (by omega) (by omega)]
      simp only [show ((0 : Nat) : Int) + 0 = 0 from rfl, show ((0 : Nat) : Int) + 1 = 1 from rfl, show ((3 : Nat) : Int) + 0 = 3 from rfl, show ((3 : Nat) : Int) + 1 = 4 from rfl]
      have r0 := bt_range s 0
      have r1 := bt_range s 1
      have r3 := bt_range s 3
      have r4 := bt_range s 4
      unfold week_Read.two
      simp only [show (0 : Int) + 1 = 1 from rfl, show (3 : Int) + 1 = 4 from rfl]
      by_cases b0 : week_Read.bad s 0
      · rw [if_pos b0, if_pos (show bt s 0 < 48 ∨ 57 < bt s 0 from b0)]
        simp [dayshiftref02_Read.j1]
      rw [if_neg b0, if_neg (show ¬ (bt s 0 < 48 ∨ 57 < bt s 0) from b0)]
      by_cases b1 : week_Read.bad s 1
      · rw [if_pos b1, if_pos (show bt s 1 < 48 ∨ 57 < bt s 1 from b1)]
        simp [dayshiftref02_Read.j1]
      rw [if_neg b1, if_neg (show ¬ (bt s 1 < 48 ∨ 57 < bt s 1) from b1)]
      by_cases b3 : week_Read.bad s 3
      · rw [if_pos b3, if_pos (show bt s 3 < 48 ∨ 57 < bt s 3 from b3)]
        simp [dayshiftref02_Read.j1]
      rw [if_neg b3, if_neg (show ¬ (bt s 3 < 48 ∨ 57 < bt s 3) from b3)]
      by_cases b4 : week_Read.bad s 4
      · rw [if_pos b4, if_pos (show bt s 4 < 48 ∨ 57 < bt s 4 from b4)]
        simp [dayshiftref02_Read.j1]
      rw [if_neg b4, if_neg (show ¬ (bt s 4 < 48 ∨ 57 < bt s 4) from b4)]
      simp only [if_true, Bool.not_true, dayshiftref02_Read.j1, Bool.false_eq_true, if_false]
      unfold week_Read.bad at b0 b1 b3 b4
      rw [wrap64_id (x := ((bt s 0 - 48) * 10 + (bt s 1 - 48)) * 60) (by omega) (by omega), wrap64_id (x := ((bt s 0 - 48) * 10 + (bt s 1 - 48)) * 60 + ((bt s 3 - 48) * 10 + (bt s 4 - 48))) (by omega) (by omega)]
    · rw [if_neg h2]
      simp [dayshiftref02_Read.j0, h2]
  · rw [if_neg h5, if_neg h5]
    simp [dayshiftref02_Read.j0]
theorem WeekTimes : dayshiftlaw02_WeekTimes.Pure := by
  intro m s _ _
  refine ⟨101, ?_⟩
  have hk : dayshiftlaw02_known.f 100 = some true := known_ok 100 (by omega)
  unfold dayshiftlaw02_WeekTimes.f
  rw [RText_eq 101 (by omega), RRead_eq 101 (by omega)]
  obtain ⟨⟨r1, r2⟩, hr⟩ : ∃ r, week_Read.f s = some r := by
    unfold week_Read.f
    repeat' split
    all_goals exact ⟨_, rfl⟩
  rw [hr]
  unfold week_Text.f
  by_cases h : 0 ≤ m ∧ m < 1440
  · rw [if_pos h]
    simp only [Option.bind_some, if_true, bne_self_eq_false, dayshiftlaw02_WeekTimes.j0, Bool.false_eq_true, if_false]
    have hd : ∀ x ∈ week_Text.dig m, 0 ≤ x ∧ x ≤ 255 := by
      intro x hx
      simp only [week_Text.dig, List.mem_cons, List.not_mem_nil, or_false] at hx
      omega
    have hb : ∀ i : Int, 0 ≤ i → i < 5 → bt (strOfNums (week_Text.dig m)) i = (week_Text.dig m).getD i.toNat 0 := fun i a b => bt_str _ i a (by simpa [week_Text.dig] using b) hd
    have e0 : bt (strOfNums (week_Text.dig m)) 0 = 48 + m / 60 / 10 := by rw [hb 0 (by omega) (by omega)]; rfl
    have e1 : bt (strOfNums (week_Text.dig m)) 1 = 48 + m / 60 % 10 := by rw [hb 1 (by omega) (by omega)]; rfl
    have e2 : bt (strOfNums (week_Text.dig m)) 2 = 58 := by rw [hb 2 (by omega) (by omega)]; rfl
    have e3 : bt (strOfNums (week_Text.dig m)) 3 = 48 + m % 60 / 10 := by rw [hb 3 (by omega) (by omega)]; rfl
    have e4 : bt (strOfNums (week_Text.dig m)) 4 = 48 + m % 60 % 10 := by rw [hb 4 (by omega) (by omega)]; rfl
    have hread : week_Read.f (strOfNums (week_Text.dig m)) = some (m, 0) := by
      unfold week_Read.f week_Read.two
      rw [if_pos (by rw [str_size]; rfl), if_pos e2, if_neg (show ¬ week_Read.bad _ 0 by unfold week_Read.bad; omega), if_neg (show ¬ week_Read.bad _ 1 by unfold week_Read.bad; omega), if_neg (show ¬ week_Read.bad _ 3 by unfold week_Read.bad; omega), if_neg (show ¬ week_Read.bad _ 4 by unfold week_Read.bad; omega)]
      rw [show (0 : Int) + 1 = 1 from rfl, show (3 : Int) + 1 = 4 from rfl, e0, e1, e3, e4, if_neg (by omega), if_neg (by omega)]
      congr 2
      omega
    rw [hread, hk]
    simp
  · rw [if_neg h]
    simp [dayshiftlaw02_WeekTimes.j0, hk]
end Go.Proofs.Ytjfghphblgkoiaa.Pure
