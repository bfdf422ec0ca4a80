/-
  The days of a month that fall on given weekdays: the program's word of bits. No conditions.
-/
import Derived.Test.YtpcjbnaggeiaoaaDoorQCalMovedXMask6
namespace Go.Proofs.YtpcjbnaggeiaoaaDoor.QCalMoved
open Go.RowKit Go.Proofs.YtpcjbnaggeiaoaaDoor.PCalMoved Go.Proofs.YtpcjbnaggeiaoaaDoorW.PrintWords Go.Proofs.YtpcjbnaggeiaoaaDoorW.PrintLast Go.Proofs.YtpcjbnaggeiaoaaDoorW.PrintMore Go.Proofs.YtpcjbnaggeiaoaaDoor.MBits
set_option linter.unusedVariables false
set_option linter.unusedSimpArgs false
theorem bind_of {α β : Type} {x : Option α} {a : α} (h : x = some a) (f : α → Option β) : x.bind f = f a := by rw [h]; rfl
/-- The week, so many times over. -/
def wk (O : Nat) : Nat → Nat
  | 0 => 0
  | j + 1 => wk O j * 128 ||| O
theorem wk_lt (O : Nat) (hO : O < 128) (j : Nat) : wk O j < 2 ^ (7 * j) := by
  induction j with
  | zero => simp [wk]
  | succ j ih =>
    have e : 2 ^ (7 * (j + 1)) = 2 ^ (7 * j) * 128 := by rw [show 7 * (j + 1) = 7 * j + 7 by omega, Nat.pow_add]
    apply Nat.or_lt_two_pow
    · rw [e]; omega
    · exact Nat.lt_of_lt_of_le hO (by rw [e]; have := Nat.two_pow_pos (7 * j); omega)
theorem wk_bit (O : Nat) (hO : O < 128) (j i : Nat) : (wk O j).testBit i = (decide (i < 7 * j) && O.testBit (i % 7)) := by
  induction j generalizing i with
  | zero => simp [wk]
  | succ j ih =>
    simp only [wk]
    rw [Nat.testBit_or, show wk O j * 128 = 2 ^ 7 * wk O j from by rw [Nat.mul_comm], Nat.testBit_two_pow_mul, ih]
    by_cases h : 7 ≤ i
    · have h2 : O.testBit i = false := Nat.testBit_lt_two_pow (Nat.lt_of_lt_of_le hO (by have := Nat.pow_le_pow_right (n := 2) (by omega) h; omega))
      have h3 : (i - 7) % 7 = i % 7 := by omega
      have h4 : decide (i - 7 < 7 * j) = decide (i < 7 * (j + 1)) := decide_eq_decide.2 (by omega)
      rw [h2, h3, h4]
      simp [h]
    · have h3 : i % 7 = i := by omega
      rw [h3]
      simp [h]
      intro _
      omega
theorem start (a : Int) : wrap64 (Int.tmod a 7 + 7) = Int.tmod a 7 + 7 ∧ Int.tmod (Int.tmod a 7 + 7) 7 = a % 7 ∧ IntKind.u64.wrap (a % 7) = a % 7 := by
  have h1 := Int.lt_tmod_of_pos a (show (0 : Int) < 7 by omega)
  have h2 := Int.tmod_lt_of_pos a (show (0 : Int) < 7 by omega)
  refine ⟨wrap64_id (by omega) (by omega), ?_, by rw [wrap_u64]; omega⟩
  rw [Int.tmod_eq_emod_of_nonneg (by omega)]
  have h3 : Int.tmod a 7 + 7 = a % 7 + 7 ∨ Int.tmod a 7 + 7 = a % 7 := by
    rcases Int.le_total 0 a with h | h
    · rw [Int.tmod_eq_emod_of_nonneg h]; omega
    · have e : Int.tmod a 7 = -((-a) % 7) := by
        have := Int.neg_tmod (a := -a) (b := 7)
        rw [Int.neg_neg] at this
        rw [this, Int.tmod_eq_emod_of_nonneg (by omega)]
      rw [e]; omega
  omega
theorem week_l0 (a1 a2 : Int) (O : Nat) (hO : O < 128) : ∀ (n j k : Nat), j + n = 6 → n < k → mask_Week.l0 k a1 a2 (O : Int) (wk O j : Int) (j : Int) = mask_Week.l0 1 a1 a2 (O : Int) (wk O 6 : Int) 6 := by
  intro n
  induction n with
  | zero =>
    intro j k hj hk
    obtain ⟨k, rfl⟩ : ∃ q, k = q + 1 := ⟨k - 1, by omega⟩
    have : j = 6 := by omega
    subst this
    rw [show ((6 : Nat) : Int) = 6 from rfl, mask_Week.l0.eq_2, show (1 : Nat) = 0 + 1 from rfl, mask_Week.l0.eq_2, if_neg (show ¬ (6 : Int) < 6 by omega), if_neg (show ¬ (6 : Int) < 6 by omega)]
  | succ n ih =>
    intro j k hj hk
    obtain ⟨k, rfl⟩ : ∃ q, k = q + 1 := ⟨k - 1, by omega⟩
    rw [mask_Week.l0.eq_2, if_pos (by omega)]
    have h1 := wk_lt O hO j
    have h2 : (2 : Nat) ^ (7 * j) ≤ 2 ^ 35 := Nat.pow_le_pow_right (by omega) (by omega)
    have e1 : IntKind.u64.wrap ((wk O j : Int) * 128) = ((wk O j * 128 : Nat) : Int) := by rw [wrap_u64]; omega
    rw [e1, or64 _ _ (by omega) (by omega), wrap64_id (by omega) (by omega)]
    exact ih (j + 1) k (by omega) (by omega)
/-- Which days: the weekday of each is among the given ones. -/
def weekB (M : Nat) (a1 a2 : Int) (i : Nat) : Bool := M.testBit (((a1 % 7).toNat + i) % 7) && (decide ((i : Int) < a2) && decide (i < 31))
theorem Week_rep (M : Nat) (hM : M < 256) (a1 a2 : Int) (k : Nat) (hk : 40 ≤ k) : ∃ x, mask_Week.f k (M : Int) a1 a2 = some x ∧ Rep x (weekB M a1 a2) := by
  obtain ⟨s1, s2, s3⟩ := start a1
  have hO : M % 128 < 128 := by omega
  have e0 : Go.bits .and .u64 (IntKind.u64.wrap (M : Int)) 127 = ((M % 128 : Nat) : Int) := by
    rw [show IntKind.u64.wrap (M : Int) = (M : Int) from by rw [wrap_u64]; omega, show (127 : Int) = ((127 : Nat) : Int) from rfl, and64 M 127 (by omega) (by omega), show (127 : Nat) = 2 ^ 7 - 1 from rfl, Nat.and_two_pow_sub_one_eq_mod]
  unfold mask_Week.f
  rw [e0]
  have hl := week_l0 a1 a2 (M % 128) hO 6 0 k rfl (by omega)
  rw [show ((wk (M % 128) 0 : Nat) : Int) = 0 from rfl, show ((0 : Nat) : Int) = 0 from rfl] at hl
  rw [hl, mask_Week.l0.eq_2, if_neg (by omega), s1, s2, s3, if_pos (by omega)]
  obtain ⟨a, e, ha⟩ := All_rep a2
  rw [bind_of e]
  have h1 := wk_lt (M % 128) hO 6
  obtain ⟨s, hs⟩ : ∃ s : Nat, a1 % 7 = (s : Int) := ⟨(a1 % 7).toNat, by omega⟩
  have hs7 : s < 7 := by omega
  have e2 : shr .u64 (wk (M % 128) 6 : Int) (a1 % 7) % 4294967296 = ((wk (M % 128) 6 / 2 ^ s % 2 ^ 32 : Nat) : Int) := by
    unfold shr
    rw [show min (a1 % 7).toNat IntKind.u64.bits = s from by rw [hs]; simp [IntKind.bits]; omega, div_pow_nat]
    omega
  rw [e2]
  refine ⟨_, rfl, ?_⟩
  have hr : Rep ((wk (M % 128) 6 / 2 ^ s % 2 ^ 32 : Nat) : Int) (fun i => M.testBit ((s + i) % 7)) := by
    refine ⟨_, rfl, Nat.mod_lt _ (by omega), fun i hi => ?_⟩
    rw [Nat.testBit_mod_two_pow, Nat.testBit_div_two_pow, wk_bit _ hO]
    rw [show M % 128 = M % 2 ^ 7 from rfl, Nat.testBit_mod_two_pow]
    have h1 : i + s < 7 * 6 := by omega
    have h2 : (i + s) % 7 < 7 := by omega
    show _ = M.testBit ((s + i) % 7)
    rw [show (s + i) % 7 = (i + s) % 7 by omega]
    simp [hi, h1, h2]
  have hs2 : (a1 % 7).toNat = s := by omega
  refine (hr.and ha).congr fun i hi => ?_
  unfold weekB
  rw [hs2]
end Go.Proofs.YtpcjbnaggeiaoaaDoor.QCalMoved
