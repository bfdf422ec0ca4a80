import Derived.Test.YtndjcicjlmmjmaaDoorQMaskMakesXWeek
import Derived.Test.YtndjcicjlmmjmaaDoorQMaskMakesRBits
import Derived.Test.YtndjcicjlmmjmaaDoorQMaskMakesLSame
namespace Go.Proofs.YtndjcicjlmmjmaaDoor.Pure
open Go.RowKit Go.Proofs.YtndjcicjlmmjmaaDoor.PMaskMakes Go.Proofs.YtndjcicjlmmjmaaDoor.QMaskMakes Go.Proofs.YtndjcicjlmmjmaaDoor.MBits Go.Proofs.YtndjcicjlmmjmaaDoorW.PrintWords Go.Proofs.YtndjcicjlmmjmaaDoorW.PrintLast
set_option linter.unusedVariables false
set_option linter.unusedSimpArgs false
/-! ### The weekdays -/
theorem rweek_l0 (M : Nat) (hM : M < 256) (a1 a2 s : Int) (hs : 0 ≤ s ∧ s < 7 ∧ s = a1 % 7) : ∀ (n i k : Nat), i + n = 31 → n < k → dayshiftref05_Week.l0 k (M : Int) a2 s ((i : Int) + 1) (RL fun j => decide (j < i) && weekB M a1 a2 j) = some (RL (weekB M a1 a2)) := by
  intro n
  induction n with
  | zero =>
    intro i k hi hk
    obtain ⟨k, rfl⟩ : ∃ q, k = q + 1 := ⟨k - 1, by omega⟩
    rw [dayshiftref05_Week.l0.eq_2, if_neg (by omega)]
    congr 1
    apply RL_congr
    intro j hj
    rw [decide_eq_true (show j < i by omega), Bool.true_and]
  | succ n ih =>
    intro i k hi hk
    obtain ⟨k, rfl⟩ : ∃ q, k = q + 1 := ⟨k - 1, by omega⟩
    rw [dayshiftref05_Week.l0.eq_2, if_pos (by omega)]
    by_cases c : (i : Int) + 1 ≤ a2
    · have hn := ih (i + 1) k (by omega) (by omega)
      rw [show ((i + 1 : Nat) : Int) + 1 = (i : Int) + 1 + 1 by omega] at hn
      obtain ⟨h0, h7, he⟩ := hs
      have e : IntKind.u64.wrap (Int.tmod (wrap64 ((wrap64 (s + ((i : Int) + 1))) - 1)) 7) = ((((a1 % 7).toNat + i) % 7 : Nat) : Int) := by
        rw [wrap64_id (x := s + ((i : Int) + 1)) (by omega) (by omega), wrap64_id (by omega) (by omega), Int.tmod_eq_emod_of_nonneg (by omega), wrap_u64]
        omega
      rw [if_pos c, e, if_pos (by omega), if_pos (by omega), if_pos (by rw [RL_len]; omega), wrap64_id (by omega) (by omega), RL_set _ i (by omega), shr_bit8 M _ hM (by omega), ← hn]
      congr 1
      apply RL_congr
      intro j hj
      by_cases cj : j = i
      · subst cj
        rw [if_pos rfl, decide_eq_true (show j < j + 1 by omega), Bool.true_and]
        unfold weekB
        rw [decide_eq_true (show (j : Int) < a2 by omega), decide_eq_true hj, Bool.and_true, Bool.and_true]
      · rw [if_neg cj, show decide (j < i) = decide (j < i + 1) from decide_eq_decide.2 (by omega)]
    · rw [if_neg c]
      congr 1
      apply RL_congr
      intro j hj
      by_cases cj : j < i
      · rw [decide_eq_true cj, Bool.true_and]
      · rw [decide_eq_false cj, Bool.false_and]
        unfold weekB
        rw [decide_eq_false (show ¬ (j : Int) < a2 by omega)]
        simp
theorem rWeek_eq (M : Nat) (hM : M < 256) (a1 a2 : Int) (k : Nat) (hk : 40 ≤ k) : dayshiftref05_Week.f k (M : Int) a1 a2 = some (RL (weekB M a1 a2)) := by
  obtain ⟨k, rfl⟩ : ∃ q, k = q + 1 := ⟨k - 1, by omega⟩
  unfold dayshiftref05_Week.f
  have h1 := Int.lt_tmod_of_pos a1 (show (0 : Int) < 7 by omega)
  have h2 := Int.tmod_lt_of_pos a1 (show (0 : Int) < 7 by omega)
  have hz : RL (fun _ => false) = RL fun j => decide (j < 0) && weekB M a1 a2 j := RL_congr fun j _ => by simp
  have hm : Int.tmod a1 7 % 7 = a1 % 7 := by
    obtain ⟨s1, s2, s3⟩ := QMaskMakes.start a1
    rw [Int.tmod_eq_emod_of_nonneg (by omega)] at s2
    omega
  rw [bindO None_eq, hz]
  by_cases c : Int.tmod a1 7 < 0
  · rw [if_pos c, dayshiftref05_Week.j0.eq_2, wrap64_id (by omega) (by omega)]
    exact rweek_l0 M hM a1 a2 _ ⟨by omega, by omega, by omega⟩ 31 0 k rfl (by omega)
  · rw [if_neg c, dayshiftref05_Week.j0.eq_2]
    exact rweek_l0 M hM a1 a2 _ ⟨by omega, by omega, by omega⟩ 31 0 k rfl (by omega)
/-! ### The given days -/
/-- Whether a given number names a day: from the beginning, or below 0 from the end. -/
def hit (a : Int) (j : Nat) (z : Int) : Bool := decide ((j : Int) < a) && (decide (z = (j : Int) + 1) || (decide (z < 0) && decide (z = (j : Int) - a)))
theorem pdays_l0 (a : Int) (ha : -9223372036854775808 ≤ a ∧ a ≤ 9223372036854775807) (l : List Int) (hl : l.length ≤ 17592186044416) (hw : ∀ x ∈ l, -9223372036854775808 ≤ x ∧ x ≤ 9223372036854775807) :
    ∀ (n i k : Nat) (x : Int), i + n = l.length → 2 * n < k → Rep x (fun j => decide (j < 31) && (l.take i).any (hit a j)) →
    ∃ y, mask_Days.l0 k a x l (l.length : Int) (i : Int) = some y ∧ Rep y (fun j => decide (j < 31) && l.any (hit a j)) := by
  intro n
  induction n with
  | zero =>
    intro i k x hi hk hx
    obtain ⟨k, rfl⟩ : ∃ q, k = q + 1 := ⟨k - 1, by omega⟩
    rw [mask_Days.l0.eq_2, if_neg (by omega)]
    rw [show l.take i = l from List.take_of_length_le (by omega)] at hx
    exact ⟨x, rfl, hx⟩
  | succ n ih =>
    intro i k x hi hk hx
    obtain ⟨k, rfl⟩ : ∃ q, k = q + 2 := ⟨k - 2, by omega⟩
    have em : rd l (i : Int) ∈ l := by
      rw [show rd l (i : Int) = l[i]'(by omega) from by simp [rd, List.getD, show i < l.length by omega]]
      exact List.getElem_mem _
    have et : l.take (i + 1) = l.take i ++ [rd l (i : Int)] := by
      rw [List.take_add_one, List.getElem?_eq_getElem (by omega)]
      simp [rd, List.getD, show i < l.length by omega]
    obtain ⟨z1, z2⟩ := hw _ em
    have hn := fun x => ih (i + 1) k x (by omega) (by omega)
    rw [et] at hn
    rw [show ((i + 1 : Nat) : Int) = (i : Int) + 1 by omega] at hn
    rw [mask_Days.l0.eq_2, if_pos (by omega), if_pos (by omega), if_pos (by omega), mask_Days.j1.eq_2, mask_Days.j1.eq_2, wrap64_id (x := (i : Int) + 1) (by omega) (by omega)]
    generalize rd l (i : Int) = z at *
    -- one step: the number's day, or none
    have yes : ∀ v : Nat, v < 31 → (v : Int) < a → (z = (v : Int) + 1 ∨ (z < 0 ∧ z = (v : Int) - a)) → ∃ y, mask_Days.l0 k a (Go.bits .or .u32 x (shl .u32 1 (v : Int))) l (l.length : Int) ((i : Int) + 1) = some y ∧ Rep y (fun j => decide (j < 31) && l.any (hit a j)) := by
      intro v hv hva hz
      refine hn _ ((hx.or (one_rep v (by omega))).congr fun j hj => ?_)
      rw [List.any_append]
      by_cases c : j < 31
      · simp only [c, decide_true, Bool.true_and, List.any_cons, List.any_nil, Bool.or_false]
        congr 1
        unfold hit
        by_cases cv : v = j
        · subst cv
          rw [decide_eq_true rfl, decide_eq_true hva]
          rcases hz with h | ⟨h, h'⟩
          · simp [h]
          · rw [decide_eq_true h, decide_eq_true h']; simp
        · rw [decide_eq_false cv]
          symm
          rw [Bool.and_eq_false_iff]
          by_cases cj : (j : Int) < a
          · right
            rw [Bool.or_eq_false_iff, Bool.and_eq_false_iff]
            simp only [decide_eq_false_iff_not]
            omega
          · left
            exact decide_eq_false cj
      · simp [c]
        omega
    have no : (∀ j : Nat, j < 31 → hit a j z = false) → ∃ y, mask_Days.l0 k a x l (l.length : Int) ((i : Int) + 1) = some y ∧ Rep y (fun j => decide (j < 31) && l.any (hit a j)) := by
      intro h
      refine hn _ (hx.congr fun j hj => ?_)
      rw [List.any_append]
      by_cases c : j < 31
      · simp [h j c]
      · simp [c]
    clear hn ih
    have mnle : mn a 31 ≤ a ∧ mn a 31 ≤ 31 ∧ (mn a 31 = a ∨ mn a 31 = 31) := by unfold mn; split <;> omega
    have hitno : ∀ j : Nat, ¬ ((j : Int) < a ∧ (z = (j : Int) + 1 ∨ (z < 0 ∧ z = (j : Int) - a))) → hit a j z = false := by
      intro j h
      unfold hit
      rw [Bool.and_eq_false_iff]
      by_cases cj : (j : Int) < a
      · right
        rw [Bool.or_eq_false_iff, Bool.and_eq_false_iff]
        simp only [decide_eq_false_iff_not]
        omega
      · left
        exact decide_eq_false cj
    have plain : (¬ (z < 0 ∧ -a ≤ z ∧ 1 ≤ a)) → ∃ y, (if z ≥ 1 then (if z ≤ (mn a 31) then (if 0 ≤ (IntKind.u64.wrap (wrap64 (z - 1))) then (mask_Days.l0 k a (Go.bits .or .u32 x (shl .u32 1 (IntKind.u64.wrap (wrap64 (z - 1))))) l (l.length : Int) ((i : Int) + 1)) else (none)) else (mask_Days.l0 k a x l (l.length : Int) ((i : Int) + 1))) else (mask_Days.l0 k a x l (l.length : Int) ((i : Int) + 1))) = some y ∧ Rep y (fun j => decide (j < 31) && l.any (hit a j)) := by
      intro hneg
      by_cases c1 : z ≥ 1
      · by_cases c2 : z ≤ mn a 31
        · have e : IntKind.u64.wrap (wrap64 (z - 1)) = (((z - 1).toNat : Nat) : Int) := by rw [wrap64_id (by omega) (by omega), wrap_u64]; omega
          rw [if_pos c1, if_pos c2, e, if_pos (by omega)]
          exact yes _ (by omega) (by omega) (.inl (by omega))
        · rw [if_pos c1, if_neg c2]
          exact no fun j hj => hitno j (by omega)
      · rw [if_neg c1]
        exact no fun j hj => hitno j (by omega)
    by_cases c : z < 0
    · rw [if_pos c]
      by_cases c2 : z ≥ wrap64 (-a)
      · rw [decide_eq_true c2, if_pos rfl]
        by_cases ca : 1 ≤ a
        · rw [wrap64_id (x := -a) (by omega) (by omega)] at c2
          have e1 : wrap64 (z + wrap64 (a + 1)) = z + a + 1 := by unfold wrap64; omega
          have e : IntKind.u64.wrap (wrap64 (z + a + 1 - 1)) = (((z + a).toNat : Nat) : Int) := by rw [wrap64_id (by omega) (by omega), wrap_u64]; omega
          rw [e1, if_pos (by omega)]
          by_cases c3 : z + a + 1 ≤ mn a 31
          · rw [if_pos c3, e, if_pos (by omega)]
            exact yes _ (by omega) (by omega) (.inr ⟨c, by omega⟩)
          · rw [if_neg c3]
            exact no fun j hj => hitno j (by omega)
        · have nn := no fun j hj => hitno j (by omega)
          by_cases c4 : wrap64 (z + wrap64 (a + 1)) ≥ 1
          · rw [if_pos c4, if_neg (by omega)]
            exact nn
          · rw [if_neg c4]
            exact nn
      · rw [decide_eq_false c2, if_neg (by simp)]
        refine plain ?_
        rintro ⟨_, h2, h3⟩
        rw [wrap64_id (x := -a) (by omega) (by omega)] at c2
        omega
    · rw [if_neg c, if_neg (by simp)]
      exact plain (by omega)
theorem Days_rep (a : Int) (ha : -9223372036854775808 ≤ a ∧ a ≤ 9223372036854775807) (l : List Int) (hl : l.length ≤ 17592186044416) (hw : ∀ x ∈ l, -9223372036854775808 ≤ x ∧ x ≤ 9223372036854775807) (k : Nat) (hk : 2 * l.length < k) :
    ∃ y, mask_Days.f k l a = some y ∧ Rep y (fun j => decide (j < 31) && l.any (hit a j)) :=
  pdays_l0 a ha l hl hw l.length 0 k 0 (by omega) hk (zero_rep.congr fun j _ => by simp)
/-- The days up to one of the month, once more number. -/
theorem rdays_l1 (a : Int) (ha : -9223372036854775808 ≤ a ∧ a ≤ 9223372036854775807) (l : List Int) (last : Int) (h1 : last ≤ 31) (h2 : last ≤ a) (hla : last = 31 ∨ last = a) (i : Nat) (hi : i < l.length) (hl : l.length ≤ 17592186044416) (C : Nat → Bool) :
    ∀ (n : Nat) (d k : Nat), (d : Int) + n = (if last < 0 then 0 else last) → n < k → ∃ q, k ≤ q + n + 1 ∧ dayshiftref05_Days.l1 k l a last (i : Int) ((d : Int) + 1) (RL fun j => C j || (decide (j < d) && hit a j (rd l i))) = dayshiftref05_Days.l0 q l a last ((i : Int) + 1) (RL fun j => C j || (decide (j < 31) && hit a j (rd l i))) := by
  intro n
  induction n with
  | zero =>
    intro d k hd hk
    obtain ⟨k, rfl⟩ : ∃ q, k = q + 1 := ⟨k - 1, by omega⟩
    refine ⟨k, by omega, ?_⟩
    have hd' : ¬ (d : Int) + 1 ≤ last := by split at hd <;> omega
    rw [dayshiftref05_Days.l1.eq_2, if_neg hd', wrap64_id (by omega) (by omega)]
    congr 1
    apply RL_congr
    intro j hj
    by_cases c : j < d
    · simp [c, hj]
    · have : hit a j (rd l i) = false := by
        unfold hit
        rw [decide_eq_false (show ¬ (j : Int) < a by split at hd <;> omega), Bool.false_and]
      rw [this]
      simp
  | succ n ih =>
    intro d k hd hk
    obtain ⟨k, rfl⟩ : ∃ q, k = q + 1 := ⟨k - 1, by omega⟩
    have hlast : (d : Int) + 1 ≤ last := by split at hd <;> omega
    obtain ⟨q, hq, hn⟩ := ih (d + 1) k (by omega) (by omega)
    refine ⟨q, by omega, ?_⟩
    rw [← hn]
    have e1 : wrap64 (wrap64 ((d : Int) + 1 - 1) - a) = (d : Int) - a := by rw [wrap64_id (x := (d : Int) + 1 - 1) (by omega) (by omega), wrap64_id (by omega) (by omega)]; omega
    have key1 : hit a d (rd l i) = true → (RL fun j => C j || (decide (j < d) && hit a j (rd l i))).set ((d : Int) + 1).toNat true = (RL fun j => C j || (decide (j < d + 1) && hit a j (rd l i))) := by
      intro h
      rw [RL_set _ d (by omega)]
      apply RL_congr
      intro j hj
      by_cases c : j = d
      · subst c; simp [h]
      · rw [if_neg c, show decide (j < d) = decide (j < d + 1) from decide_eq_decide.2 (by omega)]
    have key2 : hit a d (rd l i) = false → (RL fun j => C j || (decide (j < d) && hit a j (rd l i))) = (RL fun j => C j || (decide (j < d + 1) && hit a j (rd l i))) := by
      intro h
      apply RL_congr
      intro j hj
      by_cases c : j = d
      · subst c; simp [h]
      · rw [show decide (j < d) = decide (j < d + 1) from decide_eq_decide.2 (by omega)]
    have e2 : ((d + 1 : Nat) : Int) + 1 = (d : Int) + 1 + 1 := by omega
    rw [dayshiftref05_Days.l1.eq_2, if_pos hlast, if_pos (by omega), if_pos (by omega), e1, wrap64_id (x := (d : Int) + 1 + 1) (by omega) (by omega), e2]
    by_cases c : rd l (i : Int) = (d : Int) + 1
    · rw [if_pos c, if_pos (by omega), if_pos (by rw [RL_len]; omega), key1 (by unfold hit; rw [c, decide_eq_true (show (d : Int) < a by omega)]; simp)]
    · rw [if_neg c]
      by_cases c2 : rd l (i : Int) < 0
      · rw [if_pos c2]
        by_cases c3 : rd l (i : Int) = (d : Int) - a
        · rw [if_pos c3, if_pos (by omega), if_pos (by rw [RL_len]; omega), key1 (by unfold hit; rw [decide_eq_true (show (d : Int) < a by omega), decide_eq_true c2, decide_eq_true c3]; simp)]
        · rw [if_neg c3, key2 (by unfold hit; rw [decide_eq_false c, decide_eq_false c3]; simp)]
      · rw [if_neg c2, key2 (by unfold hit; rw [decide_eq_false c, decide_eq_false c2]; simp)]
theorem rdays_l0 (a : Int) (ha : -9223372036854775808 ≤ a ∧ a ≤ 9223372036854775807) (l : List Int) (last : Int) (h1 : last ≤ 31) (h2 : last ≤ a) (hla : last = 31 ∨ last = a) (hl : l.length ≤ 17592186044416) :
    ∀ (n i k : Nat), i + n = l.length → 40 * n < k → dayshiftref05_Days.l0 k l a last (i : Int) (RL fun j => (l.take i).any (hit a j)) = some (RL fun j => l.any (hit a j)) := by
  intro n
  induction n with
  | zero =>
    intro i k hi hk
    obtain ⟨k, rfl⟩ : ∃ q, k = q + 1 := ⟨k - 1, by omega⟩
    rw [dayshiftref05_Days.l0.eq_2, if_neg (by omega), show l.take i = l from List.take_of_length_le (by omega)]
  | succ n ih =>
    intro i k hi hk
    obtain ⟨k, rfl⟩ : ∃ q, k = q + 1 := ⟨k - 1, by omega⟩
    have et : l.take (i + 1) = l.take i ++ [rd l (i : Int)] := by
      rw [List.take_add_one, List.getElem?_eq_getElem (by omega)]
      simp [rd, List.getD, show i < l.length by omega]
    obtain ⟨m, hm⟩ : ∃ m : Nat, (m : Int) = (if last < 0 then 0 else last) := ⟨(if last < 0 then 0 else last).toNat, by split <;> omega⟩
    have hm31 : m ≤ 31 := by split at hm <;> omega
    obtain ⟨q, hq, hn⟩ := rdays_l1 a ha l last h1 h2 hla i (by omega) hl (fun j => (l.take i).any (hit a j)) m 0 k (by omega) (by omega)
    rw [dayshiftref05_Days.l0.eq_2, if_pos (by omega)]
    have e1 : (RL fun j => (l.take i).any (hit a j)) = RL fun j => (fun j => (l.take i).any (hit a j)) j || (decide (j < 0) && hit a j (rd l i)) := RL_congr fun j _ => by simp
    have e2 : (RL fun j => (fun j => (l.take i).any (hit a j)) j || (decide (j < 31) && hit a j (rd l i))) = RL fun j => (l.take (i + 1)).any (hit a j) := RL_congr fun j hj => by
      rw [et, List.any_append]
      simp [hj]
    have := ih (i + 1) q (by omega) (by omega)
    rw [e1]
    rw [e2] at hn
    exact hn.trans this
theorem rDays_eq (a : Int) (ha : -9223372036854775808 ≤ a ∧ a ≤ 9223372036854775807) (l : List Int) (hl : l.length ≤ 17592186044416) (k : Nat) (hk : 40 * l.length + 1 < k) : dayshiftref05_Days.f k l a = some (RL fun j => l.any (hit a j)) := by
  obtain ⟨k, rfl⟩ : ∃ q, k = q + 1 := ⟨k - 1, by omega⟩
  unfold dayshiftref05_Days.f
  have hz : RL (fun _ => false) = RL fun j => (l.take 0).any (hit a j) := RL_congr fun j _ => by simp
  rw [bindO None_eq, hz]
  by_cases c : a > 31
  · rw [if_pos c, dayshiftref05_Days.j0.eq_2]
    exact rdays_l0 a ha l 31 (by omega) (by omega) (.inl rfl) hl l.length 0 k (by omega) (by omega)
  · rw [if_neg c, dayshiftref05_Days.j0.eq_2]
    exact rdays_l0 a ha l a (by omega) (by omega) (.inr rfl) hl l.length 0 k (by omega) (by omega)
theorem MaskMakes : dayshiftlaw05_MaskMakes.Pure := by
  intro a0 a1 a2 l3 w0 w1 w2 hl1 hl2 w3
  obtain ⟨M, rfl, hM⟩ := wfu8 w0
  have u2 := wf64 w2
  have u3 : ∀ x ∈ l3, -9223372036854775808 ≤ x ∧ x ≤ 9223372036854775807 := fun x hx => wf64 (w3 x hx)
  obtain ⟨k, hk⟩ : ∃ k, 40 * l3.length + 200 ≤ k := ⟨40 * l3.length + 200, Nat.le_refl _⟩
  refine ⟨k, ?_⟩
  unfold dayshiftlaw05_MaskMakes.f
  obtain ⟨a, e1, ha⟩ := All_rep a2
  obtain ⟨x, e2, hx⟩ := Week_rep M hM a1 a2 k (by omega)
  obtain ⟨y, e3, hy⟩ := Days_rep a2 u2 l3 (by omega) u3 k (by omega)
  obtain ⟨da, e4, hda⟩ := days_rep ha
  obtain ⟨dx, e5, hdx⟩ := days_rep hx
  obtain ⟨dy, e6, hdy⟩ := days_rep hy
  obtain ⟨b1, e7, hb1⟩ := Bits_rep (fun j => decide ((j : Int) < a2)) k (by omega)
  obtain ⟨b2, e8, hb2⟩ := Bits_rep (weekB M a1 a2) k (by omega)
  obtain ⟨b3, e9, hb3⟩ := Bits_rep (fun j => l3.any (hit a2 j)) k (by omega)
  have q1 : da = b1 := (hda.congr (fun i hi => by by_cases c : i < 31 <;> simp [c])).uniq hb1
  have q2 : dx = b2 := hdx.uniq hb2
  have q3 : dy = b3 := (hdy.congr (fun i hi => by by_cases c : i < 31 <;> simp [c])).uniq hb3
  rw [if_pos (by simp; omega), Option.bind_some, List.nil_append]
  rw [bindO e1, bindO e2, bindO e3, bindO e4, bindO (rAll_eq a2 k (by omega)), bindO e7, if_pos q1, bindO e5, bindO (rWeek_eq M hM a1 a2 k (by omega)), bindO e8, if_pos q2, bindO e6, bindO (rDays_eq a2 u2 l3 (by omega) k (by omega)), bindO e9, if_pos q3,
    bindO (same_ok l3 (by omega) k (by omega)), if_pos rfl, bindO (known_ok k (by omega))]
end Go.Proofs.YtndjcicjlmmjmaaDoor.Pure
