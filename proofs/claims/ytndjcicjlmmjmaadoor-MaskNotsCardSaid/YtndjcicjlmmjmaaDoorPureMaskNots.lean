import Derived.Test.YtndjcicjlmmjmaaDoorQMaskNotsROf
import Derived.Test.YtndjcicjlmmjmaaDoorQMaskNotsRBits
namespace Go.Proofs.YtndjcicjlmmjmaaDoor.Pure
open Go.RowKit Go.Proofs.YtndjcicjlmmjmaaDoor.PMaskNots Go.Proofs.YtndjcicjlmmjmaaDoor.QMaskNots Go.Proofs.YtndjcicjlmmjmaaDoor.MBits Go.Proofs.YtndjcicjlmmjmaaDoorW.PrintWords Go.Proofs.YtndjcicjlmmjmaaDoorW.PrintLast
set_option linter.unusedVariables false
set_option linter.unusedSimpArgs false
theorem Not_rep {x : Int} {B : Nat → Bool} (h : Rep x B) (a : Int) : ∃ y, mask_Month_Not.f x a = some y ∧ Rep y (fun i => (decide ((i : Int) < a) && decide (i < 31)) && !B i) := by
  unfold mask_Month_Not.f
  obtain ⟨z, e, hz⟩ := All_rep a
  rw [bindO e]
  exact ⟨_, rfl, hz.andNot h⟩
theorem not_l0 (A B : Nat → Bool) : ∀ (n i k : Nat), i + n = 31 → n < k → dayshiftref05_Month_Not.l0 k ((i : Int) + 1) (RL B) (RL fun j => A j && !(decide (j < i) && B j)) = some (RL fun j => A j && !B j) := by
  intro n
  induction n with
  | zero =>
    intro i k hi hk
    obtain ⟨k, rfl⟩ : ∃ q, k = q + 1 := ⟨k - 1, by omega⟩
    rw [dayshiftref05_Month_Not.l0.eq_2, if_neg (by omega)]
    congr 1
    apply RL_congr
    intro j hj
    rw [decide_eq_true (show j < i by omega), Bool.true_and]
  | succ n ih =>
    intro i k hi hk
    obtain ⟨k, rfl⟩ : ∃ q, k = q + 1 := ⟨k - 1, by omega⟩
    have hn := ih (i + 1) k (by omega) (by omega)
    rw [show ((i + 1 : Nat) : Int) + 1 = (i : Int) + 1 + 1 by omega] at hn
    have key : ∀ b, b = (A i && !B i) → dayshiftref05_Month_Not.l0 k ((i : Int) + 1 + 1) (RL B) ((RL fun j => A j && !(decide (j < i) && B j)).set ((i : Int) + 1).toNat b) = some (RL fun j => A j && !B j) := by
      rintro b rfl
      rw [RL_set _ i (by omega), ← hn]
      congr 1
      apply RL_congr
      intro j hj
      by_cases c : j = i
      · subst c
        rw [if_pos rfl, decide_eq_true (show j < j + 1 by omega), Bool.true_and]
      · rw [if_neg c, show decide (j < i) = decide (j < i + 1) from decide_eq_decide.2 (by omega)]
    rw [dayshiftref05_Month_Not.l0.eq_2, if_pos (by omega), if_pos (by omega), if_pos (by rw [RL_len]; omega), RL_at _ _ (by omega) (by omega), if_pos (show (i : Int) + 1 < ((RL B).length : Int) by rw [RL_len]; omega), RL_at B _ (by omega) (by omega), show ((i : Int) + 1 - 1).toNat = i by omega, wrap64_id (by omega) (by omega)]
    by_cases c : A i = true
    · rw [if_pos (by simp [c])]
      exact key _ (by simp [c])
    · rw [if_neg (by simp [c])]
      exact key _ (by simp [c])
theorem rNot_eq (B : Nat → Bool) (a : Int) (k : Nat) (hk : 40 ≤ k) : dayshiftref05_Month_Not.f k (RL B) a = some (RL fun j => decide ((j : Int) < a) && !B j) := by
  unfold dayshiftref05_Month_Not.f
  rw [bindO (rAll_eq a k hk), ← not_l0 (fun j => decide ((j : Int) < a)) B 31 0 k rfl (by omega)]
  congr 1
  apply RL_congr
  intro j hj
  simp
theorem MaskNots : dayshiftlaw05_MaskNots.Pure := by
  intro a0 a1 w0 w1
  obtain ⟨M, rfl, hM⟩ := wfu32 w0
  have hx := Rep.of M hM
  obtain ⟨k, hk⟩ : ∃ k, 200 ≤ k := ⟨200, Nat.le_refl _⟩
  refine ⟨k, ?_⟩
  unfold dayshiftlaw05_MaskNots.f
  obtain ⟨y, e1, hy⟩ := Not_rep hx a1
  obtain ⟨z, e2, hz⟩ := Not_rep hy a1
  obtain ⟨dy, e3, hdy⟩ := days_rep hy
  obtain ⟨dz, e4, hdz⟩ := days_rep hz
  obtain ⟨dx, e5, hdx⟩ := days_rep hx
  obtain ⟨a, e6, ha⟩ := All_rep a1
  obtain ⟨da, e7, hda⟩ := days_rep ha
  obtain ⟨b, e8, hb⟩ := Bits_rep (fun j => decide ((j : Int) < a1) && !M.testBit j) k (by omega)
  have q1 : dy = b := (hdy.congr (fun i hi => by
    by_cases c : i < 31 <;> simp [c])).uniq hb
  have q2 : dz = Go.bits .and .u32 dx da := (hdz.congr (fun i hi => by
    by_cases c : i < 31
    · simp only [c, decide_true, Bool.true_and, Bool.and_true]
      cases M.testBit i <;> cases decide ((i : Int) < a1) <;> rfl
    · simp [c])).uniq (hdx.and hda)
  have hc := both_len (fun i => (decide ((i : Int) < a1) && decide (i < 31)) && !M.testBit i) (fun i => (decide ((i : Int) < a1) && decide (i < 31)) && !((decide ((i : Int) < a1) && decide (i < 31)) && !M.testBit i))
  have f1 : ∀ i, i < 31 → ((fun i : Nat => (decide ((i : Int) < a1) && decide (i < 31)) && !M.testBit i) i || (fun i : Nat => (decide ((i : Int) < a1) && decide (i < 31)) && !((decide ((i : Int) < a1) && decide (i < 31)) && !M.testBit i)) i) = (decide ((i : Int) < a1) && decide (i < 31)) := by
    intro i hi
    show (((decide ((i : Int) < a1) && decide (i < 31)) && !M.testBit i) || ((decide ((i : Int) < a1) && decide (i < 31)) && !((decide ((i : Int) < a1) && decide (i < 31)) && !M.testBit i))) = _
    cases M.testBit i <;> cases (decide ((i : Int) < a1) && decide (i < 31)) <;> rfl
  have f2 : ∀ i, i < 31 → ((fun i : Nat => (decide ((i : Int) < a1) && decide (i < 31)) && !M.testBit i) i && (fun i : Nat => (decide ((i : Int) < a1) && decide (i < 31)) && !((decide ((i : Int) < a1) && decide (i < 31)) && !M.testBit i)) i) = false := by
    intro i hi
    show (((decide ((i : Int) < a1) && decide (i < 31)) && !M.testBit i) && ((decide ((i : Int) < a1) && decide (i < 31)) && !((decide ((i : Int) < a1) && decide (i < 31)) && !M.testBit i))) = _
    cases M.testBit i <;> cases (decide ((i : Int) < a1) && decide (i < 31)) <;> rfl
  rw [dayList_congr f1, dayList_nil f2] at hc
  have b1 := dayList_length (fun i => (decide ((i : Int) < a1) && decide (i < 31)) && !M.testBit i)
  have b2 := dayList_length (fun i => (decide ((i : Int) < a1) && decide (i < 31)) && !((decide ((i : Int) < a1) && decide (i < 31)) && !M.testBit i))
  simp only [List.length_nil, Nat.add_zero] at hc
  rw [bindO e1, bindO e2, bindO e3, bindO (Of_eq M hM k (by omega)), bindO (rNot_eq M.testBit a1 k (by omega)), bindO e8, if_pos q1, bindO e4, bindO e5, bindO e6, bindO e7, if_pos q2,
    bindO (Count_rep hy), bindO (Count_rep hz), bindO e6, bindO (Count_rep ha), if_pos (by rw [wrap64_id (by omega) (by omega)]; omega), bindO (known_ok k (by omega))]
end Go.Proofs.YtndjcicjlmmjmaaDoor.Pure
