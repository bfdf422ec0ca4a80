import Derived.Test.YtndjcicjlmmjmaaDoorQMaskAsksROf
import Derived.Test.YtndjcicjlmmjmaaDoorQMaskAsksRMaskList
import Derived.Test.YtndjcicjlmmjmaaDoorQMaskAsksLSame
namespace Go.Proofs.YtndjcicjlmmjmaaDoor.Pure
open Go.RowKit Go.Proofs.YtndjcicjlmmjmaaDoor.PMaskAsks Go.Proofs.YtndjcicjlmmjmaaDoor.QMaskAsks Go.Proofs.YtndjcicjlmmjmaaDoor.MBits Go.Proofs.YtndjcicjlmmjmaaDoorW.PrintWords Go.Proofs.YtndjcicjlmmjmaaDoorW.PrintLast
set_option linter.unusedVariables false
set_option linter.unusedSimpArgs false
theorem MaskAsks : dayshiftlaw05_MaskAsks.Pure := by
  intro a0 a1 a2 w0 w1 w2
  obtain ⟨M, rfl, hM⟩ := wfu32 w0
  obtain ⟨u1, u2⟩ := wf64 w2
  have hx := Rep.of M hM
  have hl := dayList_length M.testBit
  obtain ⟨k, hk⟩ : ∃ k, 200 ≤ k := ⟨200, Nat.le_refl _⟩
  refine ⟨k, ?_⟩
  unfold dayshiftlaw05_MaskAsks.f
  rw [bindO (Of_eq M hM k (by omega)), bindO (Has_rep hx a1), bindO (rHas_eq M.testBit a1), if_pos (by simp), bindO (Count_rep hx), bindO (rCount_eq M.testBit k (by omega)), if_pos rfl,
    bindO (Nth_rep hx k (by omega) a2), bindO (rNth_eq M.testBit k (by omega) a2 u1 u2), if_pos rfl, bindO (Next_rep hx a1), bindO (rNext_eq M.testBit k (by omega) a1), if_pos rfl,
    bindO (Prev_rep hx a1), bindO (rPrev_eq M.testBit k (by omega) a1), if_pos rfl, bindO (List_rep hx k (by omega)), bindO (rList_eq M.testBit k (by omega)), bindO (same_ok _ (by omega) k (by omega)), if_pos rfl, bindO (known_ok k (by omega))]
end Go.Proofs.YtndjcicjlmmjmaaDoor.Pure
