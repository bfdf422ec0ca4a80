/-
  Two lists alike. No conditions beyond those that each theorem names.
-/
import Derived.Test.YtndjcicjlmmjmaaDoorQMaskMakesXMask
namespace Go.Proofs.YtndjcicjlmmjmaaDoor.QMaskMakes
open Go.RowKit Go.Proofs.YtndjcicjlmmjmaaDoor.PMaskMakes Go.Proofs.YtndjcicjlmmjmaaDoorW.PrintWords Go.Proofs.YtndjcicjlmmjmaaDoorW.PrintLast Go.Proofs.YtndjcicjlmmjmaaDoorW.PrintMore Go.Proofs.YtndjcicjlmmjmaaDoor.MBits
set_option linter.unusedVariables false
set_option linter.unusedSimpArgs false
theorem same_l0 (l : List Int) (hl : l.length ≤ 9223372036854775806) : ∀ (n i k : Nat), i + n = l.length → n < k → dayshiftlaw05_same.l0 k l l (i : Int) = some true := by
  intro n
  induction n with
  | zero =>
    intro i k hi hk
    obtain ⟨k, rfl⟩ : ∃ q, k = q + 1 := ⟨k - 1, by omega⟩
    rw [dayshiftlaw05_same.l0.eq_2, if_neg (by omega)]
  | succ n ih =>
    intro i k hi hk
    obtain ⟨k, rfl⟩ : ∃ q, k = q + 1 := ⟨k - 1, by omega⟩
    rw [dayshiftlaw05_same.l0.eq_2, if_pos (by omega), if_pos (by omega), if_pos (by omega), if_pos rfl, wrap64_id (by omega) (by omega)]
    exact ih (i + 1) k (by omega) (by omega)
theorem same_ok (l : List Int) (hl : l.length ≤ 9223372036854775806) (k : Nat) (hk : l.length < k) : dayshiftlaw05_same.f k l l = some true := by
  unfold dayshiftlaw05_same.f
  rw [if_pos rfl]
  exact same_l0 l hl l.length 0 k (by omega) hk
end Go.Proofs.YtndjcicjlmmjmaaDoor.QMaskMakes
