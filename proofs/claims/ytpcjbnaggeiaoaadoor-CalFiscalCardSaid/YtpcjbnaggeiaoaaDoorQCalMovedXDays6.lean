/- The given days of a month, as bits. No conditions beyond those that each theorem names. -/
import Derived.Test.YtpcjbnaggeiaoaaDoorQCalMovedXMask6
namespace Go.Proofs.YtpcjbnaggeiaoaaDoor.QCalMoved
open Go.RowKit Go.Proofs.YtpcjbnaggeiaoaaDoor.PCalMoved Go.Proofs.YtpcjbnaggeiaoaaDoorW.PrintWords Go.Proofs.YtpcjbnaggeiaoaaDoorW.PrintLast Go.Proofs.YtpcjbnaggeiaoaaDoorW.PrintMore Go.Proofs.YtpcjbnaggeiaoaaDoor.MBits
set_option linter.unusedVariables false
set_option linter.unusedSimpArgs false
theorem shl_one (i : Nat) (hi : i < 32) : shl .u32 1 (i : Int) = ((2 ^ i : Nat) : Int) := by
  unfold shl
  have h1 : (2 : Nat) ^ i < 2 ^ 32 := Nat.pow_lt_pow_right (by omega) hi
  rw [show min (i : Int).toNat IntKind.u32.bits = i from by simp [IntKind.bits]; omega, Int.one_mul, show ((2 : Int) ^ i) = ((2 ^ i : Nat) : Int) by push_cast; rfl]
  exact wrap_u32 _ h1
theorem zero_rep : Rep 0 (fun _ => false) := ⟨0, rfl, by omega, fun i _ => Nat.zero_testBit i⟩
theorem one_rep (i : Nat) (hi : i < 32) : Rep (shl .u32 1 (i : Int)) (fun j => decide (i = j)) := by
  rw [shl_one i hi]
  have h1 : (2 : Nat) ^ i < 2 ^ 32 := Nat.pow_lt_pow_right (by omega) hi
  exact ⟨2 ^ i, rfl, h1, fun j hj => Nat.testBit_two_pow⟩
/-- Whether a given number names a day: from the beginning, or below 0 from the end. -/
def hit (a : Int) (j : Nat) (z : Int) : Bool := decide ((j : Int) < a) && (decide (z = (j : Int) + 1) || (decide (z < 0) && decide (z = (j : Int) - a)))
theorem pdays_l0 (a : Int) (ha : -9223372036854775808 ≤ a ∧ a ≤ 9223372036854775807) (l : List Int) (hl : l.length ≤ 17592186044416) (hw : ∀ x ∈ l, -9223372036854775808 ≤ x ∧ x ≤ 9223372036854775807) :
    ∀ (n i k : Nat) (x : Int), i + n = l.length → 2 * n < k → Rep x (fun j => decide (j < 31) && (l.take i).any (hit a j)) →
    ∃ y, mask_Days.l0 k a x l (l.length : Int) (i : Int) = some y ∧ Rep y (fun j => decide (j < 31) && l.any (hit a j)) := by
  intro n
  induction n with
  | zero =>
    intro i k x hi hk hx
    obtain ⟨k, rfl⟩ : ∃ q, k = q + 1 := ⟨k - 1, by omega⟩
    rw [mask_Days.l0.eq_2, if_neg (by omega)]
    rw [show l.take i = l from List.take_of_length_le (by omega)] at hx
    exact ⟨x, rfl, hx⟩
  | succ n ih =>
    intro i k x hi hk hx
    obtain ⟨k, rfl⟩ : ∃ q, k = q + 2 := ⟨k - 2, by omega⟩
    have em : rd l (i : Int) ∈ l := by
      rw [show rd l (i : Int) = l[i]'(by omega) from by simp [rd, List.getD, show i < l.length by omega]]
      exact List.getElem_mem _
    have et : l.take (i + 1) = l.take i ++ [rd l (i : Int)] := by
      rw [List.take_add_one, List.getElem?_eq_getElem (by omega)]
      simp [rd, List.getD, show i < l.length by omega]
    obtain ⟨z1, z2⟩ := hw _ em
    have hn := fun x => ih (i + 1) k x (by omega) (by omega)
    rw [et] at hn
    rw [show ((i + 1 : Nat) : Int) = (i : Int) + 1 by omega] at hn
    rw [mask_Days.l0.eq_2, if_pos (by omega), if_pos (by omega), if_pos (by omega), mask_Days.j1.eq_2, mask_Days.j1.eq_2, wrap64_id (x := (i : Int) + 1) (by omega) (by omega)]
    generalize rd l (i : Int) = z at *
    -- one step: the number's day, or none
    have yes : ∀ v : Nat, v < 31 → (v : Int) < a → (z = (v : Int) + 1 ∨ (z < 0 ∧ z = (v : Int) - a)) → ∃ y, mask_Days.l0 k a (Go.bits .or .u32 x (shl .u32 1 (v : Int))) l (l.length : Int) ((i : Int) + 1) = some y ∧ Rep y (fun j => decide (j < 31) && l.any (hit a j)) := by
      intro v hv hva hz
      refine hn _ ((hx.or (one_rep v (by omega))).congr fun j hj => ?_)
      rw [List.any_append]
      by_cases c : j < 31
      · simp only [c, decide_true, Bool.true_and, List.any_cons, List.any_nil, Bool.or_false]
        congr 1
        unfold hit
        by_cases cv : v = j
        · subst cv
          rw [decide_eq_true rfl, decide_eq_true hva]
          rcases hz with h | ⟨h, h'⟩
          · simp [h]
          · rw [decide_eq_true h, decide_eq_true h']; simp
        · rw [decide_eq_false cv]
          symm
          rw [Bool.and_eq_false_iff]
          by_cases cj : (j : Int) < a
          · right
            rw [Bool.or_eq_false_iff, Bool.and_eq_false_iff]
            simp only [decide_eq_false_iff_not]
            omega
          · left
            exact decide_eq_false cj
      · simp [c]
        omega
    have no : (∀ j : Nat, j < 31 → hit a j z = false) → ∃ y, mask_Days.l0 k a x l (l.length : Int) ((i : Int) + 1) = some y ∧ Rep y (fun j => decide (j < 31) && l.any (hit a j)) := by
      intro h
      refine hn _ (hx.congr fun j hj => ?_)
      rw [List.any_append]
      by_cases c : j < 31
      · simp [h j c]
      · simp [c]
    clear hn ih
    have mnle : mn a 31 ≤ a ∧ mn a 31 ≤ 31 ∧ (mn a 31 = a ∨ mn a 31 = 31) := by unfold mn; split <;> omega
    have hitno : ∀ j : Nat, ¬ ((j : Int) < a ∧ (z = (j : Int) + 1 ∨ (z < 0 ∧ z = (j : Int) - a))) → hit a j z = false := by
      intro j h
      unfold hit
      rw [Bool.and_eq_false_iff]
      by_cases cj : (j : Int) < a
      · right
        rw [Bool.or_eq_false_iff, Bool.and_eq_false_iff]
        simp only [decide_eq_false_iff_not]
        omega
      · left
        exact decide_eq_false cj
    have plain : (¬ (z < 0 ∧ -a ≤ z ∧ 1 ≤ a)) → ∃ y, (if z ≥ 1 then (if z ≤ (mn a 31) then (if 0 ≤ (IntKind.u64.wrap (wrap64 (z - 1))) then (mask_Days.l0 k a (Go.bits .or .u32 x (shl .u32 1 (IntKind.u64.wrap (wrap64 (z - 1))))) l (l.length : Int) ((i : Int) + 1)) else (none)) else (mask_Days.l0 k a x l (l.length : Int) ((i : Int) + 1))) else (mask_Days.l0 k a x l (l.length : Int) ((i : Int) + 1))) = some y ∧ Rep y (fun j => decide (j < 31) && l.any (hit a j)) := by
      intro hneg
      by_cases c1 : z ≥ 1
      · by_cases c2 : z ≤ mn a 31
        · have e : IntKind.u64.wrap (wrap64 (z - 1)) = (((z - 1).toNat : Nat) : Int) := by rw [wrap64_id (by omega) (by omega), wrap_u64]; omega
          rw [if_pos c1, if_pos c2, e, if_pos (by omega)]
          exact yes _ (by omega) (by omega) (.inl (by omega))
        · rw [if_pos c1, if_neg c2]
          exact no fun j hj => hitno j (by omega)
      · rw [if_neg c1]
        exact no fun j hj => hitno j (by omega)
    by_cases c : z < 0
    · rw [if_pos c]
      by_cases c2 : z ≥ wrap64 (-a)
      · rw [decide_eq_true c2, if_pos rfl]
        by_cases ca : 1 ≤ a
        · rw [wrap64_id (x := -a) (by omega) (by omega)] at c2
          have e1 : wrap64 (z + wrap64 (a + 1)) = z + a + 1 := by unfold wrap64; omega
          have e : IntKind.u64.wrap (wrap64 (z + a + 1 - 1)) = (((z + a).toNat : Nat) : Int) := by rw [wrap64_id (by omega) (by omega), wrap_u64]; omega
          rw [e1, if_pos (by omega)]
          by_cases c3 : z + a + 1 ≤ mn a 31
          · rw [if_pos c3, e, if_pos (by omega)]
            exact yes _ (by omega) (by omega) (.inr ⟨c, by omega⟩)
          · rw [if_neg c3]
            exact no fun j hj => hitno j (by omega)
        · have nn := no fun j hj => hitno j (by omega)
          by_cases c4 : wrap64 (z + wrap64 (a + 1)) ≥ 1
          · rw [if_pos c4, if_neg (by omega)]
            exact nn
          · rw [if_neg c4]
            exact nn
      · rw [decide_eq_false c2, if_neg (by simp)]
        refine plain ?_
        rintro ⟨_, h2, h3⟩
        rw [wrap64_id (x := -a) (by omega) (by omega)] at c2
        omega
    · rw [if_neg c, if_neg (by simp)]
      exact plain (by omega)
theorem Days_rep (a : Int) (ha : -9223372036854775808 ≤ a ∧ a ≤ 9223372036854775807) (l : List Int) (hl : l.length ≤ 17592186044416) (hw : ∀ x ∈ l, -9223372036854775808 ≤ x ∧ x ≤ 9223372036854775807) (k : Nat) (hk : 2 * l.length < k) :
    ∃ y, mask_Days.f k l a = some y ∧ Rep y (fun j => decide (j < 31) && l.any (hit a j)) :=
  pdays_l0 a ha l hl hw l.length 0 k 0 (by omega) hk (zero_rep.congr fun j _ => by simp)
end Go.Proofs.YtpcjbnaggeiaoaaDoor.QCalMoved
