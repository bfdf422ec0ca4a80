/-
  What the program's functions of package mask come to: bits as days. No conditions beyond those that each theorem names.
-/
import Derived.Test.YtpcjbnaggeiaoaaDoorQCalMovedDate6
import Derived.Test.YtpcjbnaggeiaoaaDoorMBits
namespace Go.Proofs.YtpcjbnaggeiaoaaDoor.QCalMoved
open Go.RowKit Go.Proofs.YtpcjbnaggeiaoaaDoor.PCalMoved Go.Proofs.YtpcjbnaggeiaoaaDoorW.PrintWords Go.Proofs.YtpcjbnaggeiaoaaDoorW.PrintLast Go.Proofs.YtpcjbnaggeiaoaaDoorW.PrintMore Go.Proofs.YtpcjbnaggeiaoaaDoor.MBits
set_option linter.unusedVariables false
set_option linter.unusedSimpArgs false

theorem wfu32 {x : Int} (h : (Lit.int .u32 x).wf = true) : ∃ M : Nat, x = (M : Int) ∧ M < 4294967296 := by
  have e : IntKind.u32.min = 0 := by decide
  have f : IntKind.u32.max = 4294967295 := by decide
  simp [Lit.wf, e, f] at h
  exact ⟨x.toNat, by omega, by omega⟩
theorem wfu8 {x : Int} (h : (Lit.int .u8 x).wf = true) : ∃ M : Nat, x = (M : Int) ∧ M < 256 := by
  have e : IntKind.u8.min = 0 := by decide
  have f : IntKind.u8.max = 255 := by decide
  simp [Lit.wf, e, f] at h
  exact ⟨x.toNat, by omega, by omega⟩
/-- A number whose bits are these. -/
def Rep (x : Int) (B : Nat → Bool) : Prop := ∃ M : Nat, x = (M : Int) ∧ M < 4294967296 ∧ ∀ i, i < 32 → M.testBit i = B i
theorem high {M : Nat} (h : M < 4294967296) {i : Nat} (hi : 32 ≤ i) : M.testBit i = false := by
  apply Nat.testBit_lt_two_pow
  exact Nat.lt_of_lt_of_le h (by have := Nat.pow_le_pow_right (n := 2) (by omega) hi; omega)
theorem Rep.uniq {x y : Int} {B : Nat → Bool} (h : Rep x B) (k : Rep y B) : x = y := by
  obtain ⟨M, rfl, hM, hb⟩ := h
  obtain ⟨L, rfl, hL, hc⟩ := k
  congr 1
  apply Nat.eq_of_testBit_eq
  intro i
  rcases Nat.lt_or_ge i 32 with hi | hi
  · rw [hb i hi, hc i hi]
  · rw [high hM hi, high hL hi]
theorem Rep.congr {x : Int} {B C : Nat → Bool} (h : Rep x B) (k : ∀ i, i < 32 → B i = C i) : Rep x C := by
  obtain ⟨M, rfl, hM, hb⟩ := h
  exact ⟨M, rfl, hM, fun i hi => (hb i hi).trans (k i hi)⟩
theorem Rep.of (M : Nat) (h : M < 4294967296) : Rep (M : Int) M.testBit := ⟨M, rfl, h, fun _ _ => rfl⟩
theorem Rep.and {x y : Int} {B C : Nat → Bool} (h : Rep x B) (k : Rep y C) : Rep (Go.bits .and .u32 x y) (fun i => B i && C i) := by
  obtain ⟨M, rfl, hM, hb⟩ := h
  obtain ⟨L, rfl, hL, hc⟩ := k
  rw [and32 M L hM hL]
  exact ⟨_, rfl, Nat.lt_of_le_of_lt Nat.and_le_left hM, fun i hi => by rw [Nat.testBit_and, hb i hi, hc i hi]⟩
theorem Rep.or {x y : Int} {B C : Nat → Bool} (h : Rep x B) (k : Rep y C) : Rep (Go.bits .or .u32 x y) (fun i => B i || C i) := by
  obtain ⟨M, rfl, hM, hb⟩ := h
  obtain ⟨L, rfl, hL, hc⟩ := k
  rw [or32 M L hM hL]
  exact ⟨_, rfl, Nat.or_lt_two_pow (n := 32) hM hL, fun i hi => by rw [Nat.testBit_or, hb i hi, hc i hi]⟩
theorem Rep.andNot {x y : Int} {B C : Nat → Bool} (h : Rep x B) (k : Rep y C) : Rep (Go.bits .andNot .u32 x y) (fun i => B i && !C i) := by
  obtain ⟨M, rfl, hM, hb⟩ := h
  obtain ⟨L, rfl, hL, hc⟩ := k
  rw [andNot32 M L hM hL]
  exact ⟨_, rfl, Nat.lt_of_le_of_lt Nat.and_le_left hM, fun i hi => by rw [Nat.testBit_and, not_bit L i hL, hb i hi, hc i hi]; simp [hi]⟩

/-! ### The first days -/
theorem All_rep (n : Int) : ∃ x, mask_All.f n = some x ∧ Rep x (fun i => decide ((i : Int) < n) && decide (i < 31)) := by
  unfold mask_All.f
  obtain ⟨c, hc, hc31, hcn⟩ : ∃ c : Nat, (mn (mx n 0) 31).toNat = c ∧ c ≤ 31 ∧ ∀ i : Nat, (i < c ↔ (i : Int) < n ∧ i < 31) := by
    refine ⟨(mn (mx n 0) 31).toNat, rfl, ?_, ?_⟩
    · unfold mn mx; split <;> split <;> omega
    · intro i; unfold mn mx; split <;> split <;> omega
  rw [hc]
  have h2 : (2 : Nat) ^ c ≤ 2 ^ 31 := Nat.pow_le_pow_right (by omega) hc31
  have h1 : 1 ≤ (2 : Nat) ^ c := Nat.two_pow_pos c
  refine ⟨_, rfl, 2 ^ c - 1, ?_, by omega, ?_⟩
  · have e : ((2 : Int) ^ c) = ((2 ^ c : Nat) : Int) := by push_cast; rfl
    rw [e]
    omega
  · intro i hi
    rw [Nat.testBit_two_pow_sub_one]
    show decide (i < c) = (decide ((i : Int) < n) && decide (i < 31))
    rw [← Bool.decide_and]
    exact decide_eq_decide.2 (hcn i)
theorem own_rep {x : Int} {B : Nat → Bool} (h : Rep x B) : ∃ y, mask_Month_own.f x = some y ∧ Rep y (fun i => B i && decide (i < 31)) := by
  unfold mask_Month_own.f
  obtain ⟨a, e, ha⟩ := All_rep 31
  rw [e, Option.bind_some]
  refine ⟨_, rfl, (h.and ha).congr ?_⟩
  intro i hi
  by_cases h31 : i < 31
  · simp [h31]; omega
  · simp [h31]
theorem Rep.lt31 {y : Int} {B : Nat → Bool} (h : Rep y (fun i => B i && decide (i < 31))) : ∃ M : Nat, y = (M : Int) ∧ M < 2147483648 ∧ ∀ i, i < 31 → M.testBit i = B i := by
  obtain ⟨M, rfl, hM, hb⟩ := h
  refine ⟨M, rfl, ?_, fun i hi => by rw [hb i (by omega)]; simp [hi]⟩
  apply Nat.lt_pow_two_of_testBit (n := 31)
  intro i hi
  rcases Nat.lt_or_ge i 32 with h' | h'
  · rw [hb i h']; simp; omega
  · exact high hM h'
def popT : ByteArray := ⟨#[0, 1, 1, 2, 1, 2, 2, 3, 1, 2, 2, 3, 2, 3, 3, 4, 1, 2, 2, 3, 2, 3, 3, 4, 2, 3, 3, 4, 3, 4, 4, 5, 1, 2, 2, 3, 2, 3, 3, 4, 2, 3, 3, 4, 3, 4, 4, 5, 2, 3, 3, 4, 3, 4, 4, 5, 3, 4, 4, 5, 4, 5, 5, 6, 1, 2, 2, 3, 2, 3, 3, 4, 2, 3, 3, 4, 3, 4, 4, 5, 2, 3, 3, 4, 3, 4, 4, 5, 3, 4, 4, 5, 4, 5, 5, 6, 2, 3, 3, 4, 3, 4, 4, 5, 3, 4, 4, 5, 4, 5, 5, 6, 3, 4, 4, 5, 4, 5, 5, 6, 4, 5, 5, 6, 5, 6, 6, 7, 1, 2, 2, 3, 2, 3, 3, 4, 2, 3, 3, 4, 3, 4, 4, 5, 2, 3, 3, 4, 3, 4, 4, 5, 3, 4, 4, 5, 4, 5, 5, 6, 2, 3, 3, 4, 3, 4, 4, 5, 3, 4, 4, 5, 4, 5, 5, 6, 3, 4, 4, 5, 4, 5, 5, 6, 4, 5, 5, 6, 5, 6, 6, 7, 2, 3, 3, 4, 3, 4, 4, 5, 3, 4, 4, 5, 4, 5, 5, 6, 3, 4, 4, 5, 4, 5, 5, 6, 4, 5, 5, 6, 5, 6, 6, 7, 3, 4, 4, 5, 4, 5, 5, 6, 4, 5, 5, 6, 5, 6, 6, 7, 4, 5, 5, 6, 5, 6, 6, 7, 5, 6, 6, 7, 6, 7, 7, 8]⟩
theorem popT_pc : ∀ i : Fin 256, bt popT ((i.val : Nat) : Int) = (pc 8 i.val : Int) := by decide +kernel
theorem pc_le (n M : Nat) : pc n M ≤ n := by
  induction n generalizing M with
  | zero => simp [pc]
  | succ n ih => simp only [pc]; have := ih (M / 2); omega
def onesF (T : ByteArray) (a0 : Int) : Option Int := if 0 ≤ (a0 / 16777216) then (if (a0 / 16777216) < 256 then (if 0 ≤ (Go.bits .and .u32 (a0 / 65536) 255) then (if (Go.bits .and .u32 (a0 / 65536) 255) < 256 then (if 0 ≤ (Go.bits .and .u32 (a0 / 256) 255) then (if (Go.bits .and .u32 (a0 / 256) 255) < 256 then (if 0 ≤ (Go.bits .and .u32 a0 255) then (if (Go.bits .and .u32 a0 255) < 256 then (some (((((((bt T (a0 / 16777216)) + (bt T (Go.bits .and .u32 (a0 / 65536) 255))) % 256) + (bt T (Go.bits .and .u32 (a0 / 256) 255))) % 256) + (bt T (Go.bits .and .u32 a0 255))) % 256)) else (none)) else (none)) else (none)) else (none)) else (none)) else (none)) else (none)) else (none)
theorem ones_def (a0 : Int) : bits_OnesCount32.f a0 = onesF popT a0 := by delta bits_OnesCount32.f onesF popT; rfl
theorem popT_at (z : Nat) (h : z < 256) : bt popT (z : Int) = (pc 8 z : Int) := popT_pc ⟨z, h⟩
attribute [irreducible] popT
theorem and255 (z : Nat) (hz : z < 4294967296) : Go.bits .and .u32 (z : Int) 255 = ((z % 256 : Nat) : Int) := by
  rw [show (255 : Int) = ((255 : Nat) : Int) from rfl, and32 z 255 hz (by omega), show (255 : Nat) = 2 ^ 8 - 1 from rfl, Nat.and_two_pow_sub_one_eq_mod]
theorem pc_parts (M : Nat) (h : M < 4294967296) : pc 32 M = pc 8 (M % 256) + pc 8 (M / 256 % 256) + pc 8 (M / 65536 % 256) + pc 8 (M / 16777216) := by
  have p1 := pc_mod 8 M
  have p2 := pc_mod 8 (M / 256)
  have p3 := pc_mod 8 (M / 65536)
  have q1 := pc_add 8 24 M
  have q2 := pc_add 8 16 (M / 256)
  have q3 := pc_add 8 8 (M / 65536)
  rw [show (2 : Nat) ^ 8 = 256 from rfl] at p1 p2 p3 q1 q2 q3
  rw [Nat.div_div_eq_div_mul] at q2 q3
  rw [show 256 * 256 = 65536 from rfl] at q2
  rw [show 65536 * 256 = 16777216 from rfl] at q3
  rw [show 8 + 24 = 32 from rfl] at q1
  rw [show 8 + 16 = 24 from rfl] at q2
  rw [show 8 + 8 = 16 from rfl] at q3
  rw [p1, p2, p3, q1, q2, q3, Nat.add_assoc, Nat.add_assoc]
theorem ones_gen (T : ByteArray) (g : Nat → Nat) (hT : ∀ z : Nat, z < 256 → bt T (z : Int) = (g z : Int)) (hg : ∀ z, g z ≤ 8) (M : Nat) (h : M < 4294967296) : onesF T (M : Int) = some ((g (M % 256) + g (M / 256 % 256) + g (M / 65536 % 256) + g (M / 16777216) : Nat) : Int) := by
  have d1 : (M : Int) / 16777216 = ((M / 16777216 : Nat) : Int) := by omega
  have d2 : (M : Int) / 65536 = ((M / 65536 : Nat) : Int) := by omega
  have d3 : (M : Int) / 256 = ((M / 256 : Nat) : Int) := by omega
  have b1 : M / 16777216 < 256 := by omega
  have b2 : M / 65536 % 256 < 256 := by omega
  have b3 : M / 256 % 256 < 256 := by omega
  have b4 : M % 256 < 256 := by omega
  unfold onesF
  rw [d1, d2, d3, and255 (M / 65536) (by omega), and255 (M / 256) (by omega), and255 M h]
  generalize M / 16777216 = x1 at *
  generalize M / 65536 % 256 = x2 at *
  generalize M / 256 % 256 = x3 at *
  generalize M % 256 = x4 at *
  clear d1 d2 d3 h
  rw [hT _ b1, hT _ b2, hT _ b3, hT _ b4]
  have := hg x1
  have := hg x2
  have := hg x3
  have := hg x4
  rw [if_pos (by omega), if_pos (by omega), if_pos (by omega), if_pos (by omega), if_pos (by omega), if_pos (by omega), if_pos (by omega), if_pos (by omega)]
  congr 1
  omega
theorem ones_eq (M : Nat) (h : M < 4294967296) : bits_OnesCount32.f (M : Int) = some (pc 32 M : Int) := by
  rw [ones_def, ones_gen popT (pc 8) popT_at (pc_le 8) M h, pc_parts M h]
theorem Count_rep {x : Int} {B : Nat → Bool} (h : Rep x B) : mask_Month_Count.f x = some (((dayList B).length : Nat) : Int) := by
  unfold mask_Month_Count.f
  obtain ⟨y, e, hy⟩ := own_rep h
  obtain ⟨M, rfl, hM, hb⟩ := hy.lt31
  rw [e, Option.bind_some, ones_eq M (by omega), Option.bind_some, ← dayList_congr hb, count_days]
  have := pc_add 31 1 M
  rw [show 31 + 1 = 32 from rfl, show M / 2 ^ 31 = 0 from Nat.div_eq_of_lt hM] at this
  rw [this]
  simp [pc]

/-! ### The lowest bit, the highest bit -/
theorem tz_pow : ∀ t : Fin 32, tab0.getD ((((2 ^ t.val * 125613361 % 4294967296 / 134217728 : Nat)))) 0 = (t.val : Int) := by decide +kernel
theorem tz_eq (M t : Nat) (h : M ≠ 0) (hM : M < 4294967296) (ht : t < 32) (hl : M &&& (4294967296 - M) = 2 ^ t) : bits_TrailingZeros32.f (M : Int) = some (t : Int) := by
  unfold bits_TrailingZeros32.f bits_TrailingZeros32.idx
  rw [if_neg (by omega)]
  have e : (-(M : Int)) % 4294967296 = ((4294967296 - M : Nat) : Int) := by omega
  rw [e, and32 M _ hM (by omega), hl]
  have e2 : (((2 ^ t : Nat) : Int) * 125613361 % 4294967296 / 134217728).toNat = 2 ^ t * 125613361 % 4294967296 / 134217728 := by
    generalize (2 : Nat) ^ t = p
    have e3 : (p : Int) * 125613361 = ((p * 125613361 : Nat) : Int) := (Int.natCast_mul p 125613361).symm
    rw [e3]
    generalize p * 125613361 = q
    omega
  rw [e2]
  exact congrArg some (tz_pow ⟨t, ht⟩)
theorem nonzero_bit {M : Nat} (h : ∀ i, M.testBit i = false) : M = 0 := Nat.eq_of_testBit_eq fun i => by rw [h i, Nat.zero_testBit]
theorem list_l0 (e : Nat) : ∀ (k M : Nat) (acc : List Int), M < 2147483648 → (dayList M.testBit).length = e → e < k → acc.length + e ≤ 1000 → mask_Month_List.l0 k (M : Int) acc = some (acc ++ dayList M.testBit) := by
  induction e with
  | zero =>
    intro k M acc hM he hk ha
    obtain ⟨k, rfl⟩ : ∃ q, k = q + 1 := ⟨k - 1, by omega⟩
    simp only [mask_Month_List.l0]
    by_cases h : M = 0
    · subst h
      rw [List.length_eq_zero_iff] at he
      rw [he]
      simp
    · obtain ⟨t, ht, h1, h2, h3, h4⟩ := lowest M h (by omega)
      have ht31 : t < 31 := by
        rcases Nat.lt_or_ge t 31 with h' | h'
        · exact h'
        · rw [Nat.testBit_lt_two_pow (Nat.lt_of_lt_of_le hM (Nat.pow_le_pow_right (n := 2) (by omega) h'))] at h1
          cases h1
      rw [dayList_first ht31 h1 h2] at he
      simp at he
  | succ e ih =>
    intro k M acc hM he hk ha
    obtain ⟨k, rfl⟩ : ∃ q, k = q + 1 := ⟨k - 1, by omega⟩
    simp only [mask_Month_List.l0]
    have h : M ≠ 0 := by
      rintro rfl
      rw [dayList_nil (fun i _ => Nat.zero_testBit i)] at he
      simp at he
    obtain ⟨t, ht, h1, h2, h3, h4⟩ := lowest M h (by omega)
    have ht31 : t < 31 := by
      rcases Nat.lt_or_ge t 31 with h' | h'
      · exact h'
      · rw [Nat.testBit_lt_two_pow (Nat.lt_of_lt_of_le hM (Nat.pow_le_pow_right (n := 2) (by omega) h'))] at h1
        cases h1
    have hd := dayList_first ht31 h1 h2
    have he' : (dayList (fun i => M.testBit i && decide (i ≠ t))).length = e := by
      rw [hd] at he
      simpa using he
    have hc : dayList (M &&& (M - 1)).testBit = dayList (fun i => M.testBit i && decide (i ≠ t)) := dayList_congr (fun i _ => h4 i)
    rw [if_neg (by omega), tz_eq M t h (by omega) ht h3, Option.bind_some, if_pos (by omega)]
    have e1 : ((M : Int) - 1) % 4294967296 = ((M - 1 : Nat) : Int) := by omega
    rw [e1, and32 M _ (by omega) (by omega), show wrap64 ((t : Int) + 1) = (t : Int) + 1 from wrap64_id (by omega) (by omega)]
    rw [ih k (M &&& (M - 1)) (acc ++ [(t : Int) + 1]) (Nat.lt_of_le_of_lt Nat.and_le_left hM) (by rw [hc]; exact he') (by omega) (by simp; omega)]
    rw [hc, hd]
    simp
  done
theorem List_rep {x : Int} {B : Nat → Bool} (h : Rep x B) (k : Nat) (hk : 40 ≤ k) : mask_Month_List.f k x = some (dayList B) := by
  unfold mask_Month_List.f
  obtain ⟨y, e, hy⟩ := own_rep h
  obtain ⟨M, rfl, hM, hb⟩ := hy.lt31
  have hl := dayList_length M.testBit
  rw [e, Option.bind_some, list_l0 _ k M [] hM rfl (by omega) (by simp; omega), List.nil_append, dayList_congr hb]
/-- The k-th of some days, below 0 from their end; 0: none. -/
def mnthOf (l : List Int) (k : Int) : Int := if k < 0 then (if k < -(l.length : Int) then 0 else rd l (l.length + k)) else if k < 1 then 0 else if k > l.length then 0 else rd l (k - 1)
theorem Nth_rep {x : Int} {B : Nat → Bool} (h : Rep x B) (q : Nat) (hq : 40 ≤ q) (k : Int) : mask_Month_Nth.f q x k = some (mnthOf (dayList B) k) := by
  have hl := dayList_length B
  unfold mask_Month_Nth.f mnthOf
  rw [List_rep h q hq, Count_rep h]
  simp only [Option.bind_some]
  generalize dayList B = l at *
  by_cases c : k < 0
  · rw [if_pos c, if_pos c]
    have em : wrap64 (wrap64 (mx k (-32) + (l.length : Int)) + 1) = mx k (-32) + l.length + 1 := by
      unfold mx
      split <;> rw [wrap64_id (x := _ + (l.length : Int)) (by omega) (by omega), wrap64_id (by omega) (by omega)]
    rw [em]
    by_cases c2 : k < -(l.length : Int)
    · rw [if_pos c2, if_pos (by unfold mx; split <;> omega)]
    · have em2 : mx k (-32) = k := by unfold mx; split <;> omega
      rw [em2, if_neg c2, if_neg (by omega), if_neg (by omega), show wrap64 (k + (l.length : Int) + 1 - 1) = l.length + k from by rw [wrap64_id (by omega) (by omega)]; omega, if_pos (by omega), if_pos (by omega)]
  · rw [if_neg c, if_neg c]
    by_cases c2 : k < 1
    · rw [if_pos c2, if_pos c2]
    · rw [if_neg c2, if_neg c2]
      by_cases c3 : k > l.length
      · rw [if_pos c3, if_pos c3]
      · rw [if_neg c3, if_neg c3, show wrap64 (k - 1) = k - 1 from wrap64_id (by omega) (by omega), if_pos (by omega), if_pos (by omega)]
end Go.Proofs.YtpcjbnaggeiaoaaDoor.QCalMoved
