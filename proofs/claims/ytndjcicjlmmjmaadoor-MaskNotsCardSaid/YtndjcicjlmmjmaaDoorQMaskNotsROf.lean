/-
  The reference's days of a word of bits. No conditions beyond those that each theorem names.
-/
import Derived.Test.YtndjcicjlmmjmaaDoorQMaskNotsRMaskOf
namespace Go.Proofs.YtndjcicjlmmjmaaDoor.QMaskNots
open Go.RowKit Go.Proofs.YtndjcicjlmmjmaaDoor.PMaskNots Go.Proofs.YtndjcicjlmmjmaaDoorW.PrintWords Go.Proofs.YtndjcicjlmmjmaaDoorW.PrintLast Go.Proofs.YtndjcicjlmmjmaaDoorW.PrintMore Go.Proofs.YtndjcicjlmmjmaaDoor.MBits
set_option linter.unusedVariables false
set_option linter.unusedSimpArgs false
theorem of_l0 (M : Nat) (hM : M < 4294967296) : ∀ (n i k : Nat), i + n = 31 → n < k → dayshiftref05_Of.l0 k (M : Int) ((i : Int) + 1) (RL fun j => decide (j < i) && M.testBit j) = some (RL M.testBit) := by
  intro n
  induction n with
  | zero =>
    intro i k hi hk
    obtain ⟨k, rfl⟩ : ∃ q, k = q + 1 := ⟨k - 1, by omega⟩
    rw [dayshiftref05_Of.l0.eq_2, if_neg (by omega)]
    congr 1
    apply RL_congr
    intro j hj
    simp
    intro _
    omega
  | succ n ih =>
    intro i k hi hk
    obtain ⟨k, rfl⟩ : ∃ q, k = q + 1 := ⟨k - 1, by omega⟩
    have e : IntKind.u64.wrap (wrap64 ((i : Int) + 1 - 1)) = (i : Int) := by rw [wrap64_id (by omega) (by omega), wrap_u64]; omega
    rw [dayshiftref05_Of.l0.eq_2, if_pos (by omega), e, if_pos (by omega), if_pos (by omega), if_pos (by rw [RL_len]; omega), wrap64_id (by omega) (by omega), RL_set _ i (by omega), shr_bit M i hM (by omega)]
    have := ih (i + 1) k (by omega) (by omega)
    rw [← this]
    congr 1
    apply RL_congr
    intro j hj
    by_cases c : j = i
    · subst c; simp
    · rw [if_neg c]
      congr 1
      exact decide_eq_decide.2 (by omega)
theorem Of_eq (M : Nat) (hM : M < 4294967296) (k : Nat) (hk : 40 ≤ k) : dayshiftref05_Of.f k (M : Int) = some (RL M.testBit) := by
  unfold dayshiftref05_Of.f
  rw [bindO None_eq]
  have := of_l0 M hM 31 0 k rfl (by omega)
  rw [← this]
  rfl
end Go.Proofs.YtndjcicjlmmjmaaDoor.QMaskNots
