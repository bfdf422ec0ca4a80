/-
  Bits of numbers below 2^32, and the days of a month that they stand for. No conditions beyond those that each theorem names.
-/
import Derived.Test.YtpcjbnaggeiaoaaDoorWWords
import Derived.Test.YtpcjbnaggeiaoaaDoorWMore
import Derived.Laws.BitsLemmas
namespace Go.Proofs.YtpcjbnaggeiaoaaDoor.MBits
open Go.RowKit Go.Proofs.YtpcjbnaggeiaoaaDoorW.PrintWords Go.Proofs.YtpcjbnaggeiaoaaDoorW.PrintMore
set_option linter.unusedVariables false
set_option linter.unusedSimpArgs false

/-! ### Operations on 32 bits, as numbers -/
theorem wrap_u32 (n : Nat) (h : n < 4294967296) : IntKind.u32.wrap (n : Int) = n := by rw [IntKind.wrap_u32]; omega
theorem and32 (a b : Nat) (ha : a < 4294967296) (hb : b < 4294967296) : Go.bits .and .u32 (a : Int) (b : Int) = ((a &&& b : Nat) : Int) := by
  simp only [Go.bits, BitVec.ofInt_natCast, BitVec.toNat_and, BitVec.toNat_ofNat, show IntKind.u32.bits = 32 from rfl, Nat.mod_eq_of_lt (show a < 2 ^ 32 from ha), Nat.mod_eq_of_lt (show b < 2 ^ 32 from hb)]
  exact wrap_u32 _ (Nat.lt_of_le_of_lt Nat.and_le_left ha)
theorem or32 (a b : Nat) (ha : a < 4294967296) (hb : b < 4294967296) : Go.bits .or .u32 (a : Int) (b : Int) = ((a ||| b : Nat) : Int) := by
  simp only [Go.bits, BitVec.ofInt_natCast, BitVec.toNat_or, BitVec.toNat_ofNat, show IntKind.u32.bits = 32 from rfl, Nat.mod_eq_of_lt (show a < 2 ^ 32 from ha), Nat.mod_eq_of_lt (show b < 2 ^ 32 from hb)]
  exact wrap_u32 _ (Nat.or_lt_two_pow (n := 32) ha hb)
theorem andNot32 (a b : Nat) (ha : a < 4294967296) (hb : b < 4294967296) : Go.bits .andNot .u32 (a : Int) (b : Int) = ((a &&& (4294967295 - b) : Nat) : Int) := by
  have e : (2 : Nat) ^ 32 - 1 - b = 4294967295 - b := by omega
  simp only [Go.bits, BitVec.ofInt_natCast, BitVec.toNat_and, BitVec.toNat_not, BitVec.toNat_ofNat, show IntKind.u32.bits = 32 from rfl, Nat.mod_eq_of_lt (show a < 2 ^ 32 from ha), Nat.mod_eq_of_lt (show b < 2 ^ 32 from hb), e]
  exact wrap_u32 _ (Nat.lt_of_le_of_lt Nat.and_le_left ha)
theorem not_bit (b i : Nat) (hb : b < 4294967296) : (4294967295 - b).testBit i = (decide (i < 32) && !b.testBit i) := by
  have := Nat.testBit_two_pow_sub_succ (n := 32) (x := b) hb i
  rw [← this]
  congr 1
  omega
theorem and8 (a b : Nat) (ha : a < 256) (hb : b < 256) : Go.bits .and .u8 (a : Int) (b : Int) = ((a &&& b : Nat) : Int) := by
  simp only [Go.bits, BitVec.ofInt_natCast, BitVec.toNat_and, BitVec.toNat_ofNat, show IntKind.u8.bits = 8 from rfl, Nat.mod_eq_of_lt (show a < 2 ^ 8 from ha), Nat.mod_eq_of_lt (show b < 2 ^ 8 from hb)]
  have := Nat.lt_of_le_of_lt (Nat.and_le_left (n := a) (m := b)) ha
  rw [IntKind.wrap_u8]
  omega
theorem xor8 (a b : Nat) (ha : a < 256) (hb : b < 256) : Go.bits .xor .u8 (a : Int) (b : Int) = ((a ^^^ b : Nat) : Int) := by
  simp only [Go.bits, BitVec.ofInt_natCast, BitVec.toNat_xor, BitVec.toNat_ofNat, show IntKind.u8.bits = 8 from rfl, Nat.mod_eq_of_lt (show a < 2 ^ 8 from ha), Nat.mod_eq_of_lt (show b < 2 ^ 8 from hb)]
  have := Nat.xor_lt_two_pow (n := 8) ha hb
  rw [IntKind.wrap_u8]
  omega
theorem wrap_u64 (n : Int) : IntKind.u64.wrap n = n % 18446744073709551616 := by simp [IntKind.wrap, IntKind.bits, IntKind.signed]
theorem and64 (a b : Nat) (ha : a < 18446744073709551616) (hb : b < 18446744073709551616) : Go.bits .and .u64 (a : Int) (b : Int) = ((a &&& b : Nat) : Int) := by
  simp only [Go.bits, BitVec.ofInt_natCast, BitVec.toNat_and, BitVec.toNat_ofNat, show IntKind.u64.bits = 64 from rfl, Nat.mod_eq_of_lt (show a < 2 ^ 64 from ha), Nat.mod_eq_of_lt (show b < 2 ^ 64 from hb)]
  have := Nat.lt_of_le_of_lt (Nat.and_le_left (n := a) (m := b)) ha
  rw [wrap_u64]
  omega
theorem or64 (a b : Nat) (ha : a < 18446744073709551616) (hb : b < 18446744073709551616) : Go.bits .or .u64 (a : Int) (b : Int) = ((a ||| b : Nat) : Int) := by
  simp only [Go.bits, BitVec.ofInt_natCast, BitVec.toNat_or, BitVec.toNat_ofNat, show IntKind.u64.bits = 64 from rfl, Nat.mod_eq_of_lt (show a < 2 ^ 64 from ha), Nat.mod_eq_of_lt (show b < 2 ^ 64 from hb)]
  have := Nat.or_lt_two_pow (n := 64) ha hb
  rw [wrap_u64]
  omega
/-- One bit, asked by a shift. -/
theorem bit_one (n : Nat) : (((n &&& 1 : Nat) : Int) == 1) = n.testBit 0 := by
  rw [Nat.and_one_is_mod, Nat.testBit_zero]
  rcases Nat.mod_two_eq_zero_or_one n with h | h <;> simp [h]
theorem div_pow_nat (x : Nat) (c : Nat) : (x : Int) / 2 ^ c = ((x / 2 ^ c : Nat) : Int) := by push_cast; rfl
theorem shr_bit (x c : Nat) (hx : x < 4294967296) (hc : c ≤ 32) : (Go.bits .and .u32 (shr .u32 (x : Int) (c : Int)) 1 == 1) = x.testBit c := by
  unfold shr
  rw [show min (c : Int).toNat IntKind.u32.bits = c from by simp [IntKind.bits]; omega, div_pow_nat]
  rw [show (1 : Int) = ((1 : Nat) : Int) from rfl, and32 _ _ (Nat.lt_of_le_of_lt (Nat.div_le_self _ _) hx) (by omega)]
  have := bit_one (x / 2 ^ c)
  rw [Nat.testBit_div_two_pow] at this
  simpa using this
theorem shr_bit8 (x c : Nat) (hx : x < 256) (hc : c ≤ 8) : (Go.bits .and .u8 (shr .u8 (x : Int) (c : Int)) 1 == 1) = x.testBit c := by
  unfold shr
  rw [show min (c : Int).toNat IntKind.u8.bits = c from by simp [IntKind.bits]; omega, div_pow_nat]
  rw [show (1 : Int) = ((1 : Nat) : Int) from rfl, and8 _ _ (Nat.lt_of_le_of_lt (Nat.div_le_self _ _) hx) (by omega)]
  have := bit_one (x / 2 ^ c)
  rw [Nat.testBit_div_two_pow] at this
  simpa using this

/-! ### The lowest bit -/
theorem odd_part : ∀ (M : Nat), M ≠ 0 → ∃ t q, M = 2 ^ t * (2 * q + 1) := by
  intro M
  induction M using Nat.strongRecOn with
  | _ M ih =>
    intro h
    rcases Nat.mod_two_eq_zero_or_one M with h0 | h1
    · obtain ⟨t, q, e⟩ := ih (M / 2) (by omega) (by omega)
      refine ⟨t + 1, q, ?_⟩
      rw [Nat.pow_succ, Nat.mul_comm (2 ^ t) 2, Nat.mul_assoc, ← e]
      omega
    · exact ⟨0, M / 2, by simp; omega⟩
theorem bit_of_odd (t q i : Nat) : (2 ^ t * (2 * q + 1)).testBit i = (decide (t ≤ i) && (2 * q + 1).testBit (i - t)) := by
  rw [Nat.testBit_two_pow_mul]
theorem bit_odd (q j : Nat) : (2 * q + 1).testBit j = if j = 0 then true else q.testBit (j - 1) := by
  cases j with
  | zero => simp [Nat.testBit_zero]
  | succ j => rw [Nat.testBit_succ]; simp; congr 1; omega
theorem clear_low (t q i : Nat) : ((2 ^ t * (2 * q + 1)) &&& (2 ^ t * (2 * q + 1) - 1)).testBit i = ((2 ^ t * (2 * q + 1)).testBit i && decide (i ≠ t)) := by
  have e : 2 ^ t * (2 * q + 1) - 1 = 2 ^ t * (2 * q) + (2 ^ t - 1) := by
    have := Nat.two_pow_pos t
    rw [Nat.mul_add]
    omega
  rw [Nat.testBit_and, e, Nat.testBit_two_pow_mul_add _ (by have := Nat.two_pow_pos t; omega), bit_of_odd]
  by_cases h : i < t
  · simp [h, show ¬ t ≤ i by omega]
  · rw [if_neg h]
    simp only [show t ≤ i by omega, decide_true, Bool.true_and]
    obtain ⟨j, rfl⟩ : ∃ j, i = t + j := ⟨i - t, by omega⟩
    rw [show t + j - t = j by omega]
    cases j with
    | zero => simp [Nat.testBit_zero]
    | succ j =>
      rw [bit_odd, Nat.testBit_succ]
      simp
theorem low_only (t q : Nat) (ht : 2 ^ t * (2 * q + 1) < 4294967296) : (2 ^ t * (2 * q + 1)) &&& (4294967296 - 2 ^ t * (2 * q + 1)) = 2 ^ t := by
  have ht31 : t < 32 := by
    rcases Nat.lt_or_ge t 32 with h | h
    · exact h
    · have : 2 ^ 32 ≤ 2 ^ t := Nat.pow_le_pow_right (by omega) h
      have : 2 ^ t * 1 ≤ 2 ^ t * (2 * q + 1) := Nat.mul_le_mul_left _ (by omega)
      omega
  have hs : (2 : Nat) ^ 32 = 2 ^ t * (2 * 2 ^ (31 - t)) := by
    rw [← Nat.mul_assoc, Nat.mul_comm (2 ^ t) 2, ← Nat.pow_succ', ← Nat.pow_add]
    congr 1
    omega
  have hq : q < 2 ^ (31 - t) := by
    have h1 : 2 ^ t * (2 * q + 1) < 2 ^ t * (2 * 2 ^ (31 - t)) := by rw [← hs]; exact ht
    have := Nat.lt_of_mul_lt_mul_left h1
    omega
  have e : 4294967296 - 2 ^ t * (2 * q + 1) = 2 ^ t * (2 * (2 ^ (31 - t) - (q + 1)) + 1) := by
    rw [show (4294967296 : Nat) = 2 ^ t * (2 * 2 ^ (31 - t)) from hs, ← Nat.mul_sub]
    congr 1
    omega
  apply Nat.eq_of_testBit_eq
  intro i
  rw [e, Nat.testBit_and, bit_of_odd, bit_of_odd, Nat.testBit_two_pow]
  by_cases h : i < t
  · simp [show ¬ t ≤ i by omega, show ¬ t = i by omega]
  · obtain ⟨j, rfl⟩ : ∃ j, i = t + j := ⟨i - t, by omega⟩
    simp only [show t ≤ t + j by omega, decide_true, Bool.true_and, show t + j - t = j by omega]
    rw [bit_odd, bit_odd]
    cases j with
    | zero => simp
    | succ j =>
      simp only [show ¬ j + 1 = 0 by omega, if_false, show j + 1 - 1 = j by omega]
      rw [Nat.testBit_two_pow_sub_succ hq]
      have : ¬ t = t + (j + 1) := by omega
      simp [this]
      intro h1 h2
      exact h1
/-- The lowest bit of a number. -/
theorem lowest (M : Nat) (h : M ≠ 0) (hM : M < 4294967296) : ∃ t, t < 32 ∧ M.testBit t = true ∧ (∀ i, i < t → M.testBit i = false) ∧ M &&& (4294967296 - M) = 2 ^ t ∧ (∀ i, (M &&& (M - 1)).testBit i = (M.testBit i && decide (i ≠ t))) := by
  obtain ⟨t, q, rfl⟩ := odd_part M h
  refine ⟨t, ?_, ?_, ?_, low_only t q hM, clear_low t q⟩
  · rcases Nat.lt_or_ge t 32 with h | h
    · exact h
    · have : 2 ^ 32 ≤ 2 ^ t := Nat.pow_le_pow_right (by omega) h
      have : 2 ^ t * 1 ≤ 2 ^ t * (2 * q + 1) := Nat.mul_le_mul_left _ (by omega)
      omega
  · rw [bit_of_odd]; simp [Nat.testBit_zero]
  · intro i hi
    rw [bit_of_odd]; simp [show ¬ t ≤ i by omega]

/-! ### The days that bits stand for -/
def idxs (B : Nat → Bool) (a n : Nat) : List Nat := ((List.range n).map (a + ·)).filter B
def dayList (B : Nat → Bool) : List Int := (idxs B 0 31).map fun (i : Nat) => (i : Int) + 1
theorem idxs_split (B : Nat → Bool) (a m n : Nat) : idxs B a (m + n) = idxs B a m ++ idxs B (a + m) n := by
  unfold idxs
  rw [List.range_add, List.map_append, List.filter_append, List.map_map]
  congr 2
  apply List.map_congr_left
  intro x _
  simp
  omega
theorem idxs_one (B : Nat → Bool) (a : Nat) : idxs B a 1 = if B a = true then [a] else [] := by
  unfold idxs
  simp [List.range_succ, List.filter_cons]
theorem idxs_congr {B C : Nat → Bool} {a n : Nat} (h : ∀ i, a ≤ i → i < a + n → B i = C i) : idxs B a n = idxs C a n := by
  unfold idxs
  apply List.filter_congr
  intro x hx
  simp at hx
  obtain ⟨j, hj, rfl⟩ := hx
  exact h _ (by omega) (by omega)
theorem idxs_none {B : Nat → Bool} {a n : Nat} (h : ∀ i, a ≤ i → i < a + n → B i = false) : idxs B a n = [] := by
  unfold idxs
  rw [List.filter_eq_nil_iff]
  intro x hx
  simp at hx
  obtain ⟨j, hj, rfl⟩ := hx
  simp [h (a + j) (by omega) (by omega)]
theorem idxs_length (B : Nat → Bool) (a n : Nat) : (idxs B a n).length ≤ n := by
  unfold idxs
  exact Nat.le_trans (List.length_filter_le _ _) (by simp)
theorem dayList_congr {B C : Nat → Bool} (h : ∀ i, i < 31 → B i = C i) : dayList B = dayList C := by
  unfold dayList
  rw [idxs_congr (C := C) (fun i _ hi => h i (by omega))]
theorem dayList_length (B : Nat → Bool) : (dayList B).length ≤ 31 := by
  unfold dayList
  rw [List.length_map]
  exact idxs_length _ _ _
/-- The first of the days. -/
theorem dayList_first {B : Nat → Bool} {t : Nat} (ht : t < 31) (h : B t = true) (hl : ∀ i, i < t → B i = false) : dayList B = ((t : Int) + 1) :: dayList (fun i => B i && decide (i ≠ t)) := by
  unfold dayList
  rw [show 31 = t + (1 + (30 - t)) by omega, idxs_split B 0 t, idxs_split B (0 + t) 1, idxs_split (fun i => B i && decide (i ≠ t)) 0 t, idxs_split (fun i => B i && decide (i ≠ t)) (0 + t) 1]
  rw [idxs_none (B := B) (a := 0) (n := t) (fun i _ hi => hl i (by omega)), idxs_none (a := 0) (n := t) (fun i _ hi => by simp [hl i (by omega)])]
  rw [idxs_one, idxs_one, if_pos (by simpa using h), if_neg (by simp)]
  rw [idxs_congr (B := fun i => B i && decide (i ≠ t)) (C := B) (a := 0 + t + 1) (fun i hi _ => by simp; omega)]
  simp
/-- The last of the days. -/
theorem dayList_last {B : Nat → Bool} {t : Nat} (ht : t < 31) (h : B t = true) (hl : ∀ i, t < i → i < 31 → B i = false) : dayList B = dayList (fun i => B i && decide (i ≠ t)) ++ [(t : Int) + 1] := by
  unfold dayList
  rw [show 31 = t + (1 + (30 - t)) by omega, idxs_split B 0 t, idxs_split B (0 + t) 1, idxs_split (fun i => B i && decide (i ≠ t)) 0 t, idxs_split (fun i => B i && decide (i ≠ t)) (0 + t) 1]
  rw [idxs_none (B := B) (a := 0 + t + 1) (n := 30 - t) (fun i hi h2 => hl i (by omega) (by omega)), idxs_none (a := 0 + t + 1) (n := 30 - t) (fun i hi h2 => by simp [hl i (by omega) (by omega)])]
  rw [idxs_one, idxs_one, if_pos (by simpa using h), if_neg (by simp)]
  rw [idxs_congr (B := fun i => B i && decide (i ≠ t)) (C := B) (a := 0) (n := t) (fun i _ hi => by simp; omega)]
  simp
theorem dayList_nil {B : Nat → Bool} (h : ∀ i, i < 31 → B i = false) : dayList B = [] := by
  unfold dayList
  rw [idxs_none (fun i _ hi => h i (by omega))]
  rfl
theorem dayList_filter (B : Nat → Bool) (p : Int → Bool) : (dayList B).filter p = dayList (fun i => B i && p ((i : Int) + 1)) := by
  unfold dayList idxs
  rw [List.filter_map, List.filter_filter]
  congr 2
  funext i
  simp [Bool.and_comm]

/-! ### How many bits -/
def pc : Nat → Nat → Nat
  | 0, _ => 0
  | n + 1, M => M % 2 + pc n (M / 2)
theorem pc_add (a b M : Nat) : pc (a + b) M = pc a M + pc b (M / 2 ^ a) := by
  induction a generalizing M with
  | zero => simp [pc]
  | succ a ih =>
    rw [show a + 1 + b = (a + b) + 1 by omega]
    simp only [pc]
    rw [ih, Nat.div_div_eq_div_mul, Nat.pow_succ', Nat.add_assoc]
theorem pc_mod (a M : Nat) : pc a (M % 2 ^ a) = pc a M := by
  induction a generalizing M with
  | zero => rfl
  | succ a ih =>
    simp only [pc]
    have h1 : M % 2 ^ (a + 1) % 2 = M % 2 := by
      rw [Nat.pow_succ]
      exact Nat.mod_mul_left_mod M (2 ^ a) 2
    have h2 : M % 2 ^ (a + 1) / 2 = M / 2 % 2 ^ a := by
      rw [Nat.pow_succ']
      exact Nat.mod_mul_right_div_self M 2 (2 ^ a)
    rw [h1, h2, ih]
theorem pc_idxs (n M a : Nat) (N : Nat) (h : M = N / 2 ^ a) : (idxs N.testBit a n).length = pc n M := by
  induction n generalizing M a with
  | zero => rfl
  | succ n ih =>
    rw [show n + 1 = 1 + n by omega, idxs_split, idxs_one]
    rw [show 1 + n = n + 1 by omega]
    simp only [pc]
    rw [List.length_append, ih (M / 2) (a + 1) (by rw [h, Nat.div_div_eq_div_mul, Nat.pow_succ])]
    have : N.testBit a = decide (M % 2 = 1) := by
      rw [h, Nat.testBit_eq_decide_div_mod_eq]
    rw [this]
    rcases Nat.mod_two_eq_zero_or_one M with h0 | h1
    · simp [h0]
    · simp [h1]
theorem count_days (M : Nat) : (dayList M.testBit).length = pc 31 M := by
  unfold dayList
  rw [List.length_map]
  exact pc_idxs 31 M 0 M (by simp)
theorem both_len (B C : Nat → Bool) : (dayList (fun i => B i || C i)).length + (dayList (fun i => B i && C i)).length = (dayList B).length + (dayList C).length := by
  unfold dayList idxs
  simp only [List.length_map]
  generalize (List.range 31).map (0 + ·) = l
  induction l with
  | nil => rfl
  | cons x l ih => simp only [List.filter_cons]; cases B x <;> cases C x <;> simp <;> omega
end Go.Proofs.YtpcjbnaggeiaoaaDoor.MBits
