import Derived.Test.YtndjcicjlmmjmaaDoorQMaskBothXMask
namespace Go.Proofs.YtndjcicjlmmjmaaDoor.Pure
open Go.RowKit Go.Proofs.YtndjcicjlmmjmaaDoor.PMaskBoth Go.Proofs.YtndjcicjlmmjmaaDoor.QMaskBoth Go.Proofs.YtndjcicjlmmjmaaDoor.MBits Go.Proofs.YtndjcicjlmmjmaaDoorW.PrintWords Go.Proofs.YtndjcicjlmmjmaaDoorW.PrintLast
set_option linter.unusedVariables false
set_option linter.unusedSimpArgs false
theorem MaskBoth : dayshiftlaw05_MaskBoth.Pure := by
  intro a0 a1 a2 w0 w1 w2
  obtain ⟨M, rfl, hM⟩ := wfu32 w0
  obtain ⟨L, rfl, hL⟩ := wfu32 w1
  have hx := Rep.of M hM
  have hy := Rep.of L hL
  have hc := both_len M.testBit L.testBit
  have b1 := dayList_length M.testBit
  have b2 := dayList_length L.testBit
  obtain ⟨k, hk⟩ : ∃ k, 40 ≤ k := ⟨40, Nat.le_refl _⟩
  refine ⟨k, ?_⟩
  unfold dayshiftlaw05_MaskBoth.f
  simp -implicitDefEqProofs only [Count_rep (hx.or hy), Count_rep (hx.and hy), Count_rep hx, Count_rep hy, Option.bind_some]
  rw [if_pos (by rw [wrap64_id (by omega) (by omega), wrap64_id (by omega) (by omega)]; omega)]
  simp -implicitDefEqProofs only [Has_rep (hx.or hy), Has_rep (hx.and hy), Has_rep hx, Has_rep hy, Option.bind_some, known_ok k hk]
  generalize decide (1 ≤ a2 ∧ a2 ≤ 31) = p
  generalize M.testBit (a2 - 1).toNat = b
  generalize L.testBit (a2 - 1).toNat = c
  cases p <;> cases b <;> cases c <;> rfl
end Go.Proofs.YtndjcicjlmmjmaaDoor.Pure
