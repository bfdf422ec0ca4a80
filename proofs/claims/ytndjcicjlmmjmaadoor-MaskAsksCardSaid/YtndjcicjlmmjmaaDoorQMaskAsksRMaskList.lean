/-
  What the reference says of days: which, how many, the k-th, the next, the one before. No conditions beyond those that each theorem names.
-/
import Derived.Test.YtndjcicjlmmjmaaDoorQMaskAsksRMaskOf
import Derived.Test.YtndjcicjlmmjmaaDoorMDays
namespace Go.Proofs.YtndjcicjlmmjmaaDoor.QMaskAsks
open Go.RowKit Go.Proofs.YtndjcicjlmmjmaaDoor.PMaskAsks Go.Proofs.YtndjcicjlmmjmaaDoorW.PrintWords Go.Proofs.YtndjcicjlmmjmaaDoorW.PrintLast Go.Proofs.YtndjcicjlmmjmaaDoorW.PrintMore Go.Proofs.YtndjcicjlmmjmaaDoor.MBits
set_option linter.unusedVariables false
set_option linter.unusedSimpArgs false
theorem rHas_eq (B : Nat → Bool) (d : Int) : dayshiftref05_Month_Has.f (RL B) d = some (decide (1 ≤ d ∧ d ≤ 31) && B (d - 1).toNat) := by
  unfold dayshiftref05_Month_Has.f
  by_cases h1 : d ≥ 1
  · by_cases h2 : d ≤ 31
    · rw [if_pos h1, if_pos h2, if_pos (by omega), if_pos (by rw [RL_len]; omega), RL_at B d h1 h2, decide_eq_true ⟨h1, h2⟩, Bool.true_and]
    · rw [if_pos h1, if_neg h2, decide_eq_false (by omega), Bool.false_and]
  · rw [if_neg h1, decide_eq_false (by omega), Bool.false_and]
theorem rlist_l0 (B : Nat → Bool) : ∀ (n i k : Nat) (acc : List Int), i + n = 31 → acc.length ≤ i → n < k → dayshiftref05_Month_List.l0 k acc ((i : Int) + 1) (RL B) = some (acc ++ (idxs B i n).map fun (i : Nat) => (i : Int) + 1) := by
  intro n
  induction n with
  | zero =>
    intro i k acc hi ha hk
    obtain ⟨k, rfl⟩ : ∃ q, k = q + 1 := ⟨k - 1, by omega⟩
    rw [dayshiftref05_Month_List.l0.eq_2, if_neg (by omega)]
    simp [idxs]
  | succ n ih =>
    intro i k acc hi ha hk
    obtain ⟨k, rfl⟩ : ∃ q, k = q + 1 := ⟨k - 1, by omega⟩
    rw [dayshiftref05_Month_List.l0.eq_2, if_pos (by omega), if_pos (by omega), if_pos (by rw [RL_len]; omega), RL_at B _ (by omega) (by omega), show ((i : Int) + 1 - 1).toNat = i by omega, wrap64_id (by omega) (by omega), show n + 1 = 1 + n by omega, idxs_split, idxs_one]
    by_cases c : B i = true
    · rw [if_pos c, if_pos (by omega), if_pos c]
      have := ih (i + 1) k (acc ++ [(i : Int) + 1]) (by omega) (by simp; omega) (by omega)
      rw [show ((i + 1 : Nat) : Int) + 1 = (i : Int) + 1 + 1 by omega] at this
      rw [this]
      simp
    · rw [if_neg c, if_neg c]
      have := ih (i + 1) k acc (by omega) (by omega) (by omega)
      rw [show ((i + 1 : Nat) : Int) + 1 = (i : Int) + 1 + 1 by omega] at this
      rw [this]
      simp
theorem rList_eq (B : Nat → Bool) (k : Nat) (hk : 40 ≤ k) : dayshiftref05_Month_List.f k (RL B) = some (dayList B) := by
  have := rlist_l0 B 31 0 k [] rfl (by simp) (by omega)
  rw [List.nil_append] at this
  exact this
theorem rCount_eq (B : Nat → Bool) (k : Nat) (hk : 40 ≤ k) : dayshiftref05_Month_Count.f k (RL B) = some (((dayList B).length : Nat) : Int) := by
  unfold dayshiftref05_Month_Count.f
  rw [bindO (rList_eq B k hk)]
theorem rnth_l0 (l : List Int) (hl : l.length ≤ 31) (q : Int) (hq1 : -9223372036854775808 ≤ q) (hq2 : q ≤ 9223372036854775807) : ∀ (n i k : Nat), i + n = l.length → n < k → (∀ j : Nat, j < i → q ≠ (j : Int) + 1 ∧ q ≠ (j : Int) - l.length) → dayshiftref05_Month_Nth.l0 k q l (i : Int) = some (nthOf l q) := by
  intro n
  induction n with
  | zero =>
    intro i k hi hk h
    obtain ⟨k, rfl⟩ : ∃ q, k = q + 1 := ⟨k - 1, by omega⟩
    rw [dayshiftref05_Month_Nth.l0.eq_2, if_neg (by omega)]
    congr 1
    unfold nthOf
    by_cases c : q < 0
    · rw [if_pos c]
      by_cases c2 : q < -(l.length : Int)
      · rw [if_pos c2]
      · have := (h (q + l.length).toNat (by omega)).2
        omega
    · rw [if_neg c]
      by_cases c2 : q < 1
      · rw [if_pos c2]
      · rw [if_neg c2]
        by_cases c3 : q > l.length
        · rw [if_pos c3]
        · have := (h (q - 1).toNat (by omega)).1
          omega
  | succ n ih =>
    intro i k hi hk h
    obtain ⟨k, rfl⟩ : ∃ q, k = q + 1 := ⟨k - 1, by omega⟩
    rw [dayshiftref05_Month_Nth.l0.eq_2, if_pos (by omega), wrap64_id (x := (i : Int) + 1) (by omega) (by omega), wrap64_id (x := (i : Int) - l.length) (by omega) (by omega)]
    by_cases c : q = (i : Int) + 1
    · rw [if_pos c, if_pos (by omega)]
      unfold nthOf
      rw [if_neg (by omega), if_neg (by omega), if_neg (by omega), show q - 1 = (i : Int) by omega]
    · rw [if_neg c]
      by_cases c2 : q = (i : Int) - l.length
      · rw [if_pos c2, if_pos (by omega)]
        unfold nthOf
        rw [if_pos (by omega), if_neg (by omega), show (l.length : Int) + q = (i : Int) by omega]
      · rw [if_neg c2]
        exact ih (i + 1) k (by omega) (by omega) (fun j hj => by
          by_cases hji : j = i
          · subst hji; exact ⟨c, c2⟩
          · exact h j (by omega))
theorem rNth_eq (B : Nat → Bool) (k : Nat) (hk : 40 ≤ k) (q : Int) (hq1 : -9223372036854775808 ≤ q) (hq2 : q ≤ 9223372036854775807) : dayshiftref05_Month_Nth.f k (RL B) q = some (nthOf (dayList B) q) := by
  unfold dayshiftref05_Month_Nth.f
  rw [bindO (rList_eq B k hk)]
  have hl := dayList_length B
  exact rnth_l0 _ hl q hq1 hq2 (dayList B).length 0 k (by omega) (by omega) (fun j hj => by omega)
theorem rnext_l0 (l : List Int) (hl : l.length ≤ 31) (q : Int) : ∀ (n i k : Nat), i + n = l.length → n < k → dayshiftref05_Month_Next.l0 k q l (i : Int) = some (((l.drop i).filter (fun z => decide (q < z))).headD 0) := by
  intro n
  induction n with
  | zero =>
    intro i k hi hk
    obtain ⟨k, rfl⟩ : ∃ q, k = q + 1 := ⟨k - 1, by omega⟩
    rw [dayshiftref05_Month_Next.l0.eq_2, if_neg (by omega), List.drop_eq_nil_of_le (by omega)]
    rfl
  | succ n ih =>
    intro i k hi hk
    obtain ⟨k, rfl⟩ : ∃ q, k = q + 1 := ⟨k - 1, by omega⟩
    have e : l.drop i = rd l (i : Int) :: l.drop (i + 1) := by
      rw [List.drop_eq_getElem_cons (by omega)]
      congr 1
      simp [rd, List.getD, show i < l.length by omega]
    rw [dayshiftref05_Month_Next.l0.eq_2, if_pos (by omega), if_pos (by omega), wrap64_id (by omega) (by omega), e, List.filter_cons]
    by_cases c : rd l (i : Int) > q
    · rw [if_pos c, if_pos (by simpa using c)]
      rfl
    · rw [if_neg c, if_neg (by simpa using c)]
      exact ih (i + 1) k (by omega) (by omega)
theorem rNext_eq (B : Nat → Bool) (k : Nat) (hk : 40 ≤ k) (q : Int) : dayshiftref05_Month_Next.f k (RL B) q = some (((dayList B).filter (fun z => decide (q < z))).headD 0) := by
  unfold dayshiftref05_Month_Next.f
  rw [bindO (rList_eq B k hk)]
  have hl := dayList_length B
  exact rnext_l0 _ hl q (dayList B).length 0 k (by omega) (by omega)
theorem rprev_l0 (l : List Int) (hl : l.length ≤ 31) (q : Int) : ∀ (i k : Nat), i ≤ l.length → i < k → dayshiftref05_Month_Prev.l0 k q l ((i : Int) - 1) = some (((l.take i).filter (fun z => decide (z < q))).getLastD 0) := by
  intro i
  induction i with
  | zero =>
    intro k hi hk
    obtain ⟨k, rfl⟩ : ∃ q, k = q + 1 := ⟨k - 1, by omega⟩
    rw [dayshiftref05_Month_Prev.l0.eq_2, if_neg (by omega), List.take_zero]
    rfl
  | succ i ih =>
    intro k hi hk
    obtain ⟨k, rfl⟩ : ∃ q, k = q + 1 := ⟨k - 1, by omega⟩
    have e : l.take (i + 1) = l.take i ++ [rd l (i : Int)] := by
      rw [List.take_add_one, List.getElem?_eq_getElem (by omega)]
      simp [rd, List.getD, show i < l.length by omega]
    rw [dayshiftref05_Month_Prev.l0.eq_2, show ((i + 1 : Nat) : Int) - 1 = (i : Int) by omega, if_pos (by omega), if_pos (by omega), if_pos (by omega), wrap64_id (by omega) (by omega), e, List.filter_append, List.filter_cons]
    by_cases c : rd l (i : Int) < q
    · rw [if_pos c, if_pos (by simpa using c)]
      simp
    · rw [if_neg c, if_neg (by simpa using c)]
      simp only [List.filter_nil, List.append_nil]
      exact ih k (by omega) (by omega)
theorem rPrev_eq (B : Nat → Bool) (k : Nat) (hk : 40 ≤ k) (q : Int) : dayshiftref05_Month_Prev.f k (RL B) q = some (((dayList B).filter (fun z => decide (z < q))).getLastD 0) := by
  unfold dayshiftref05_Month_Prev.f
  rw [bindO (rList_eq B k hk)]
  have hl := dayList_length B
  have := rprev_l0 _ hl q (dayList B).length k (by omega) (by omega)
  rw [List.take_length] at this
  rw [wrap64_id (by omega) (by omega)]
  exact this
end Go.Proofs.YtndjcicjlmmjmaaDoor.QMaskAsks
