/-
  The reference's word of its days, its first days, and the law's days of a word. No conditions beyond those that each theorem names.
-/
import Derived.Test.YtndjcicjlmmjmaaDoorQMaskMakesRMaskOf
namespace Go.Proofs.YtndjcicjlmmjmaaDoor.QMaskMakes
open Go.RowKit Go.Proofs.YtndjcicjlmmjmaaDoor.PMaskMakes Go.Proofs.YtndjcicjlmmjmaaDoorW.PrintWords Go.Proofs.YtndjcicjlmmjmaaDoorW.PrintLast Go.Proofs.YtndjcicjlmmjmaaDoorW.PrintMore Go.Proofs.YtndjcicjlmmjmaaDoor.MBits
set_option linter.unusedVariables false
set_option linter.unusedSimpArgs false
theorem shl_one (i : Nat) (hi : i < 32) : shl .u32 1 (i : Int) = ((2 ^ i : Nat) : Int) := by
  unfold shl
  have h1 : (2 : Nat) ^ i < 2 ^ 32 := Nat.pow_lt_pow_right (by omega) hi
  rw [show min (i : Int).toNat IntKind.u32.bits = i from by simp [IntKind.bits]; omega, Int.one_mul, show ((2 : Int) ^ i) = ((2 ^ i : Nat) : Int) by push_cast; rfl]
  exact wrap_u32 _ h1
theorem one_rep (i : Nat) (hi : i < 32) : Rep (shl .u32 1 (i : Int)) (fun j => decide (i = j)) := by
  rw [shl_one i hi]
  have h1 : (2 : Nat) ^ i < 2 ^ 32 := Nat.pow_lt_pow_right (by omega) hi
  exact ⟨2 ^ i, rfl, h1, fun j hj => Nat.testBit_two_pow⟩
theorem zero_rep : Rep 0 (fun _ => false) := ⟨0, rfl, by omega, fun i _ => Nat.zero_testBit i⟩
theorem bits_l0 (C : Nat → Bool) : ∀ (n i k : Nat) (x : Int), i + n = 31 → n < k → Rep x (fun j => decide (j < i) && C j) → ∃ y, dayshiftref05_Bits.l0 k x ((i : Int) + 1) (RL C) = some y ∧ Rep y (fun j => decide (j < 31) && C j) := by
  intro n
  induction n with
  | zero =>
    intro i k x hi hk hx
    obtain ⟨k, rfl⟩ : ∃ q, k = q + 1 := ⟨k - 1, by omega⟩
    rw [dayshiftref05_Bits.l0.eq_2, if_neg (by omega)]
    have : i = 31 := by omega
    subst this
    exact ⟨x, rfl, hx⟩
  | succ n ih =>
    intro i k x hi hk hx
    obtain ⟨k, rfl⟩ : ∃ q, k = q + 1 := ⟨k - 1, by omega⟩
    have e : IntKind.u64.wrap (wrap64 ((i : Int) + 1 - 1)) = (i : Int) := by rw [wrap64_id (by omega) (by omega), wrap_u64]; omega
    have e1 : (i : Int) + 1 + 1 = ((i + 1 : Nat) : Int) + 1 := by omega
    rw [dayshiftref05_Bits.l0.eq_2, if_pos (by omega), if_pos (by omega), if_pos (by rw [RL_len]; omega), RL_at C _ (by omega) (by omega), show ((i : Int) + 1 - 1).toNat = i by omega, e, wrap64_id (by omega) (by omega), e1]
    by_cases c : C i = true
    · rw [if_pos c, if_pos (by omega)]
      refine ih (i + 1) k _ (by omega) (by omega) ((hx.or (one_rep i (by omega))).congr fun j hj => ?_)
      by_cases cj : j = i
      · subst cj; simp [c]
      · rw [decide_eq_false (show ¬ i = j by omega), Bool.or_false]
        congr 1
        exact decide_eq_decide.2 (by omega)
    · rw [if_neg c]
      refine ih (i + 1) k _ (by omega) (by omega) (hx.congr fun j hj => ?_)
      by_cases cj : j = i
      · subst cj; simp [c]
      · congr 1
        exact decide_eq_decide.2 (by omega)
theorem Bits_rep (C : Nat → Bool) (k : Nat) (hk : 40 ≤ k) : ∃ y, dayshiftref05_Bits.f k (RL C) = some y ∧ Rep y (fun j => decide (j < 31) && C j) :=
  bits_l0 C 31 0 k 0 rfl (by omega) (zero_rep.congr fun j _ => by simp)
theorem days_rep {x : Int} {B : Nat → Bool} (h : Rep x B) : ∃ y, dayshiftlaw05_days.f x = some y ∧ Rep y (fun j => decide (j < 31) && B j) := by
  obtain ⟨M, rfl, hM, hb⟩ := h
  unfold dayshiftlaw05_days.f
  refine ⟨_, rfl, M % 2 ^ 31, by omega, by omega, fun i hi => ?_⟩
  rw [Nat.testBit_mod_two_pow, hb i hi]
theorem all_l0 (a : Int) : ∀ (n i k : Nat), i + n = 31 → n < k → dayshiftref05_All.l0 k a ((i : Int) + 1) (RL fun j => decide (j < i) && decide ((j : Int) < a)) = some (RL fun j => decide ((j : Int) < a)) := by
  intro n
  induction n with
  | zero =>
    intro i k hi hk
    obtain ⟨k, rfl⟩ : ∃ q, k = q + 1 := ⟨k - 1, by omega⟩
    rw [dayshiftref05_All.l0.eq_2, if_neg (by omega)]
    congr 1
    apply RL_congr
    intro j hj
    rw [decide_eq_true (show j < i by omega), Bool.true_and]
  | succ n ih =>
    intro i k hi hk
    obtain ⟨k, rfl⟩ : ∃ q, k = q + 1 := ⟨k - 1, by omega⟩
    rw [dayshiftref05_All.l0.eq_2, if_pos (by omega), if_pos (by omega), if_pos (by rw [RL_len]; omega), wrap64_id (by omega) (by omega), RL_set _ i (by omega), ← ih (i + 1) k (by omega) (by omega)]
    congr 1
    apply RL_congr
    intro j hj
    by_cases c : j = i
    · subst c
      rw [if_pos rfl, decide_eq_true (show j < j + 1 by omega), Bool.true_and]
      exact decide_eq_decide.2 (by omega)
    · rw [if_neg c]
      congr 1
      exact decide_eq_decide.2 (by omega)
theorem rAll_eq (a : Int) (k : Nat) (hk : 40 ≤ k) : dayshiftref05_All.f k a = some (RL fun j => decide ((j : Int) < a)) := by
  unfold dayshiftref05_All.f
  rw [bindO None_eq, ← all_l0 a 31 0 k rfl (by omega)]
  congr 1
end Go.Proofs.YtndjcicjlmmjmaaDoor.QMaskMakes
