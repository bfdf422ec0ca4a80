/-
  Of two dates that can be, the later one has the greater day, for every input and without a condition.
-/
import Derived.Test.YtkeecpgfpoaplaaQDateOrderDate
namespace Go.Proofs.Ytkeecpgfpoaplaa.Pure
open Go.RowKit Go.Proofs.Ytkeecpgfpoaplaa.PDateOrder Go.Proofs.Ytkeecpgfpoaplaa.QDateOrder Go.Proofs.YtkeecpgfpoaplaaW.PrintWords Go.Proofs.YtkeecpgfpoaplaaW.PrintLast Go.Proofs.Ytkeecpgfpoaplaa.MDate

theorem DateOrder : dayshiftlaw01_DateOrder.Pure := by
  intro y m d z n e _ _ hd _ _ he
  have hd' : d ≤ 9223372036854775807 := by
    simp [Lit.wf] at hd
    omega
  have he' : e ≤ 9223372036854775807 := by
    simp [Lit.wf] at he
    omega
  refine ⟨100, ?_⟩
  unfold dayshiftlaw01_DateOrder.f
  rw [Days_eq 100 (by omega) y m d hd', Days_eq 100 (by omega) z n e he']
  have hk : dayshiftlaw01_known.f 99 = some true := known_ok 99 (by omega)
  rcases days_cases y m d with h1 | ⟨n1, h1, d1⟩
  · rw [h1]
    simp [dayshiftlaw01_DateOrder.j0, hk]
  rcases days_cases z n e with h2 | ⟨n2, h2, d2⟩
  · rw [h1, h2]
    simp [dayshiftlaw01_DateOrder.j0, hk]
  rw [h1, h2]
  simp only [Option.bind_some, dayshiftlaw01_DateOrder.j0, hk, if_true, show ((0 : Int) != 0) = false from rfl, Bool.false_eq_true, if_false]
  by_cases c1 : y < z
  · have := d1.lt_of_later d2 (.inl c1)
    simp [c1, this]
  rw [if_neg c1]
  by_cases c2 : y = z
  · rw [if_pos c2]
    by_cases c3 : m < n
    · have := d1.lt_of_later d2 (.inr (.inl ⟨c2, c3⟩))
      simp [c3, this]
    rw [if_neg c3]
    by_cases c4 : m = n
    · rw [if_pos c4]
      by_cases c5 : d < e
      · have := d1.lt_of_later d2 (.inr (.inr ⟨c2, c4, c5⟩))
        simp [c5, this]
      · have h : ¬ n1 < n2 := by
          by_cases c6 : e < d
          · have := d2.lt_of_later d1 (.inr (.inr ⟨c2.symm, c4.symm, c6⟩))
            omega
          · have : d = e := by omega
            subst this c2 c4
            rw [h1] at h2
            simp at h2
            omega
        simp [c5, h]
    · have := d2.lt_of_later d1 (.inr (.inl ⟨c2.symm, by omega⟩))
      rw [if_neg c4]
      simp [show ¬ n1 < n2 by omega]
  · have := d2.lt_of_later d1 (.inl (by omega))
    rw [if_neg c2]
    simp [show ¬ n1 < n2 by omega]
end Go.Proofs.Ytkeecpgfpoaplaa.Pure
