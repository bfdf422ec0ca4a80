/-
  Every day as a text, and every text as a day, are the reference's, for every input and without a condition.
-/
import Derived.Test.YtkeecpgfpoaplaaQDateTextsRefRead
import Derived.Test.YtkeecpgfpoaplaaQDateTextsRefDate
import Derived.Test.YtkeecpgfpoaplaaQDateTextsDigits
namespace Go.Proofs.Ytkeecpgfpoaplaa.Pure
open Go.RowKit Go.Proofs.Ytkeecpgfpoaplaa.PDateTexts Go.Proofs.Ytkeecpgfpoaplaa.QDateTexts Go.Proofs.YtkeecpgfpoaplaaW.PrintWords Go.Proofs.YtkeecpgfpoaplaaW.PrintLast Go.Proofs.Ytkeecpgfpoaplaa.MDate Go.Proofs.Ytkeecpgfpoaplaa.MText

theorem RText_ok (k : Nat) (hk : 100 ≤ k) (n y m d : Int) (hd : IsDate n y m d) : dayshiftref01_Text.f k n = some (strOfNums (date_Text.dig8 (y * 10000 + m * 100 + d)), 0) := by
  have hr := hd.range
  obtain ⟨z, p, q, e, hq⟩ := RDate_ok k hk n hr.1 hr.2
  obtain ⟨rfl, rfl, rfl⟩ := hd.uniq hq
  have hl := len_bd y m
  obtain ⟨a1, a2, a3, a4, a5, a6, a7⟩ := hd
  unfold dayshiftref01_Text.f
  rw [e]
  simp only [Option.bind_some, if_true]
  rw [Digits4 k (by omega) y (by omega) a2]
  simp only [Option.bind_some]
  rw [Digits2 k (by omega) m (by omega) (by omega)]
  simp only [Option.bind_some]
  rw [if_pos (by rw [str_size, str_size]; simp)]
  rw [Digits2 k (by omega) d (by omega) (by omega)]
  simp only [Option.bind_some]
  rw [if_pos (by rw [str_app, str_size, str_size]; simp)]
  rw [str_app, str_app]
  simp only [List.cons_append, List.nil_append, date_Text.dig8]
  congr 4
  · omega
  congr 1
  · omega
  congr 1
  · omega
  congr 1
  · omega
  congr 1
  · omega
  congr 1
  · omega
  congr 1
  · omega
  congr 1
  omega
theorem RText_no (k : Nat) (n : Int) (h : ¬ (1 ≤ n ∧ n ≤ 3652059)) : dayshiftref01_Text.f k n = some ((⟨#[]⟩ : ByteArray), 6) := by
  unfold dayshiftref01_Text.f
  rw [RDate_no k n h]
  rfl
theorem DateTexts : dayshiftlaw01_DateTexts.Pure := by
  intro n s _ hs
  refine ⟨100, ?_⟩
  have ht : ∃ r, date_Text.f 100 n = some r ∧ dayshiftref01_Text.f 100 n = some r := by
    by_cases h : 1 ≤ n ∧ n ≤ 3652059
    · obtain ⟨y, m, d, hd, e⟩ := Text_ok 100 (by omega) n h.1 h.2
      exact ⟨_, e, RText_ok 100 (by omega) n y m d hd⟩
    · exact ⟨_, Text_no 100 n h, RText_no 100 n h⟩
  obtain ⟨r, e, f⟩ := ht
  unfold dayshiftlaw01_DateTexts.f
  rw [e, f, Read_eq 100 (by omega) s, RRead_eq 100 (by omega) s hs, known_ok 100 (by omega)]
  simp
end Go.Proofs.Ytkeecpgfpoaplaa.Pure
