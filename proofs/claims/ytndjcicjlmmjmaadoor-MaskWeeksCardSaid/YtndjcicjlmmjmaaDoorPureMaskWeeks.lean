import Derived.Test.YtndjcicjlmmjmaaDoorQMaskWeeksXWeek
namespace Go.Proofs.YtndjcicjlmmjmaaDoor.Pure
open Go.RowKit Go.Proofs.YtndjcicjlmmjmaaDoor.PMaskWeeks Go.Proofs.YtndjcicjlmmjmaaDoor.QMaskWeeks Go.Proofs.YtndjcicjlmmjmaaDoor.MBits Go.Proofs.YtndjcicjlmmjmaaDoorW.PrintWords Go.Proofs.YtndjcicjlmmjmaaDoorW.PrintLast
set_option linter.unusedVariables false
set_option linter.unusedSimpArgs false
theorem weeks_l0 (M L : Nat) (a1 a2 x y : Int) (hx : Rep x (weekB M a1 a2)) (hy : Rep y (weekB L a1 a2)) (hL : ∀ i, i < 7 → L.testBit i = !M.testBit i) :
    ∀ (n k : Nat) (d : Int), 1 ≤ d → d ≤ 25 → d + n = 25 → n + 40 < k → dayshiftlaw05_MaskWeeks.l0 k a2 x y d = some true := by
  obtain ⟨a, ea, ha⟩ := All_rep a2
  intro n
  induction n with
  | zero =>
    intro k d h1 h2 h3 hk
    obtain ⟨k, rfl⟩ : ∃ q, k = q + 1 := ⟨k - 1, by omega⟩
    rw [dayshiftlaw05_MaskWeeks.l0.eq_2, if_neg (by omega), bind_of (known_ok k (by omega))]
  | succ n ih =>
    intro k d h1 h2 h3 hk
    obtain ⟨k, rfl⟩ : ∃ q, k = q + 1 := ⟨k - 1, by omega⟩
    have hn := ih k (d + 1) (by omega) (by omega) (by omega) (by omega)
    rw [dayshiftlaw05_MaskWeeks.l0.eq_2, if_pos (by omega), wrap64_id (x := d + 7) (by omega) (by omega), wrap64_id (x := d + 1) (by omega) (by omega), hn]
    simp -implicitDefEqProofs only [Has_rep hx, Has_rep hy, ea, Has_rep ha, Option.bind_some]
    obtain ⟨i, hi⟩ : ∃ i : Nat, d = (i : Int) + 1 := ⟨(d - 1).toNat, by omega⟩
    rw [show (d - 1).toNat = i by omega, show (d + 7 - 1).toNat = i + 7 by omega, decide_eq_true (show 1 ≤ d ∧ d ≤ 31 by omega), decide_eq_true (show 1 ≤ d + 7 ∧ d + 7 ≤ 31 by omega)]
    simp only [Bool.true_and]
    have e1 : weekB M a1 a2 i = (M.testBit (((a1 % 7).toNat + i) % 7) && decide ((i : Int) < a2)) := by unfold weekB; rw [decide_eq_true (show i < 31 by omega), Bool.and_true]
    have e2 : weekB L a1 a2 i = (!M.testBit (((a1 % 7).toNat + i) % 7) && decide ((i : Int) < a2)) := by unfold weekB; rw [hL _ (by omega), decide_eq_true (show i < 31 by omega), Bool.and_true]
    have e3 : weekB M a1 a2 (i + 7) = (M.testBit (((a1 % 7).toNat + i) % 7) && decide (((i + 7 : Nat) : Int) < a2)) := by unfold weekB; rw [show ((a1 % 7).toNat + (i + 7)) % 7 = ((a1 % 7).toNat + i) % 7 by omega, decide_eq_true (show i + 7 < 31 by omega), Bool.and_true]
    have e4 : (decide (((i + 7 : Nat) : Int) < a2) && decide (i + 7 < 31)) = decide (((i + 7 : Nat) : Int) < a2) := by rw [decide_eq_true (show i + 7 < 31 by omega), Bool.and_true]
    rw [e1, e2, e3, e4]
    by_cases c : ((i + 7 : Nat) : Int) < a2
    · rw [decide_eq_true c, decide_eq_true (show (i : Int) < a2 by omega)]
      cases M.testBit (((a1 % 7).toNat + i) % 7) <;> rfl
    · rw [decide_eq_false c]
      cases M.testBit (((a1 % 7).toNat + i) % 7) <;> cases decide ((i : Int) < a2) <;> rfl
theorem MaskWeeks : dayshiftlaw05_MaskWeeks.Pure := by
  intro a0 a1 a2 w0 w1 w2
  obtain ⟨M, rfl, hM⟩ := wfu8 w0
  obtain ⟨k, hk⟩ : ∃ k, 100 ≤ k := ⟨100, Nat.le_refl _⟩
  refine ⟨k, ?_⟩
  unfold dayshiftlaw05_MaskWeeks.f
  have ex : Go.bits .xor .u8 255 (M : Int) = ((255 ^^^ M : Nat) : Int) := xor8 255 M (by omega) hM
  have hL : 255 ^^^ M < 256 := Nat.xor_lt_two_pow (n := 8) (by omega) hM
  have hb : ∀ i, i < 7 → (255 ^^^ M).testBit i = !M.testBit i := by
    intro i hi
    rw [Nat.testBit_xor, show (255 : Nat) = 2 ^ 8 - 1 from rfl, Nat.testBit_two_pow_sub_one, decide_eq_true (show i < 8 by omega)]
    cases M.testBit i <;> rfl
  obtain ⟨x, e1, hx⟩ := Week_rep M hM a1 a2 k (by omega)
  obtain ⟨y, e2, hy⟩ := Week_rep (255 ^^^ M) hL a1 a2 k (by omega)
  obtain ⟨a, ea, ha⟩ := All_rep a2
  rw [ex, bind_of e1, bind_of e2, bind_of (Count_rep hx), bind_of (Count_rep hy), bind_of ea, bind_of (Count_rep ha)]
  have hc := both_len (weekB M a1 a2) (weekB (255 ^^^ M) a1 a2)
  have f1 : ∀ i, i < 31 → (weekB M a1 a2 i || weekB (255 ^^^ M) a1 a2 i) = (decide ((i : Int) < a2) && decide (i < 31)) := by
    intro i hi
    unfold weekB
    rw [hb _ (by omega)]
    cases M.testBit (((a1 % 7).toNat + i) % 7) <;> simp
  have f2 : ∀ i, i < 31 → (weekB M a1 a2 i && weekB (255 ^^^ M) a1 a2 i) = false := by
    intro i hi
    unfold weekB
    rw [hb _ (by omega)]
    cases M.testBit (((a1 % 7).toNat + i) % 7) <;> simp
  rw [dayList_congr f1, dayList_nil f2] at hc
  have b1 := dayList_length (weekB M a1 a2)
  have b2 := dayList_length (weekB (255 ^^^ M) a1 a2)
  rw [if_pos (by rw [wrap64_id (by omega) (by omega)]; simp at hc; omega)]
  exact weeks_l0 M (255 ^^^ M) a1 a2 x y hx hy hb 24 k 1 (by omega) (by omega) (by omega) (by omega)
end Go.Proofs.YtndjcicjlmmjmaaDoor.Pure
