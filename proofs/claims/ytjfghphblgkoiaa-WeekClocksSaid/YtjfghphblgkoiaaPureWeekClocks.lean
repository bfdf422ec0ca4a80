/-
  Any clock's day and minutes, and which day it counts to, are what the reference says; so is the clock of any day and minutes: for every input and without a condition.
-/
import Derived.Test.YtjfghphblgkoiaaQWeekClocksRefRight
namespace Go.Proofs.Ytjfghphblgkoiaa.Pure
open Go.RowKit Go.Proofs.Ytjfghphblgkoiaa.PWeekClocks Go.Proofs.Ytjfghphblgkoiaa.QWeekClocks Go.Proofs.YtjfghphblgkoiaaW.PrintWords Go.Proofs.YtjfghphblgkoiaaW.PrintLast Go.Proofs.Ytjfghphblgkoiaa.MDate

def minB (m : Int) : Bool := decide (0 ≤ m) && decide (m < 1440)
theorem wright_eq (m : Int) : week_right.f m = some (minB m) := by
  unfold week_right.f minB
  by_cases h : 0 ≤ m
  · have : m ≥ 0 := h
    simp [h]
  · have : ¬ m ≥ 0 := h
    simp [h]
theorem rright_eq (m : Int) : dayshiftref02_Right.f m = some (minB m) := by
  unfold dayshiftref02_Right.f minB
  by_cases h : 0 ≤ m
  · have : m ≥ 0 := h
    simp [h]
  · have : ¬ m ≥ 0 := h
    simp [h]
theorem minB_iff (m : Int) : minB m = true ↔ 0 ≤ m ∧ m < 1440 := by simp [minB]
theorem minB_not {m : Int} (h : ¬ (0 ≤ m ∧ m < 1440)) : minB m = false := by rw [← Bool.not_eq_true, minB_iff]; exact h
def splitOf (c : Int) : Int × Int × Int := if 1440 ≤ c ∧ c ≤ 5258966399 then (c / 1440, c % 1440, 0) else (0, 0, 6)
theorem split_any (c : Int) : (if c < 1440 then (some ((0 : Int), (0 : Int), (6 : Int))) else (if c > 5258966399 then (some (0, 0, 6)) else (some (wrap64 (Int.tdiv c 1440), Int.tmod c 1440, 0)))) = some (splitOf c) := by
  unfold splitOf
  by_cases c1 : c < 1440
  · rw [if_pos c1, if_neg (by omega)]
  by_cases c2 : c > 5258966399
  · rw [if_neg c1, if_pos c2, if_neg (by omega)]
  rw [if_neg c1, if_neg c2, if_pos (by omega), Int.tdiv_eq_ediv_of_nonneg (by omega), Int.tmod_eq_emod_of_nonneg (by omega), wrap64_id (by omega) (by omega)]
theorem Split_eq (c : Int) : week_Split.f c = some (splitOf c) := split_any c
theorem RSplit_eq (c : Int) : dayshiftref02_Split.f c = some (splitOf c) := split_any c
/-- The day that a clock counts to. -/
def orderOf (c b : Int) : Int × Int := if 0 ≤ b ∧ b < 1440 ∧ 1440 + b ≤ c ∧ c ≤ 5258966399 then ((c - b) / 1440, 0) else (0, 6)
theorem Order_eq (c b : Int) : week_Order.f c b = some (orderOf c b) := by
  unfold week_Order.f orderOf
  rw [wright_eq, Option.bind_some]
  by_cases h : 0 ≤ b ∧ b < 1440
  · rw [if_pos ((minB_iff b).2 h)]
    by_cases c1 : c > 5258966399
    · rw [if_pos c1, if_neg (by omega)]
    rw [if_neg c1, show wrap64 (1440 + b) = 1440 + b from wrap64_id (by omega) (by omega)]
    by_cases c2 : c < 1440 + b
    · rw [if_pos c2, if_neg (by omega)]
    rw [if_neg c2, if_pos (by omega), show wrap64 (c - b) = c - b from wrap64_id (by omega) (by omega), Int.tdiv_eq_ediv_of_nonneg (by omega), wrap64_id (by omega) (by omega)]
  · rw [minB_not h, if_neg (by decide), if_neg (by omega)]
theorem ROrder_eq (k : Nat) (hk : 1 ≤ k) (c b : Int) : dayshiftref02_Order.f k c b = some (orderOf c b) := by
  obtain ⟨k, rfl⟩ : ∃ q, k = q + 1 := ⟨k - 1, by omega⟩
  unfold dayshiftref02_Order.f orderOf
  rw [RSplit_eq, Option.bind_some]
  unfold splitOf
  by_cases h : 1440 ≤ c ∧ c ≤ 5258966399
  · rw [if_pos h]
    simp only [if_true]
    rw [rright_eq, Option.bind_some]
    by_cases hb : 0 ≤ b ∧ b < 1440
    · rw [(minB_iff b).2 hb]
      simp only [dayshiftref02_Order.j0, Bool.not_true, Bool.false_eq_true, if_false]
      by_cases c1 : c % 1440 < b
      · rw [if_pos c1, show wrap64 (c / 1440 - 1) = c / 1440 - 1 from wrap64_id (by omega) (by omega), RRightW_eq, Option.bind_some]
        by_cases c2 : 1440 + b ≤ c
        · rw [if_pos (show rightB (c / 1440 - 1) = true by simp [rightB]; omega), if_pos (by omega)]
          congr 2
          omega
        · rw [if_neg (show ¬ rightB (c / 1440 - 1) = true by simp [rightB]; omega), if_neg (by omega)]
      · rw [if_neg c1, RRightW_eq, Option.bind_some, if_pos (show rightB (c / 1440) = true by simp [rightB]; omega), if_pos (by omega)]
        congr 2
        omega
    · rw [minB_not hb]
      simp only [dayshiftref02_Order.j0, Bool.not_false, if_true]
      rw [if_neg (by omega)]
  · rw [if_neg h]
    simp only
    rw [if_neg (by decide), if_neg (by omega)]
    simp [dayshiftref02_Order.j0]
def joinOf (d m : Int) : Int × Int := if 1 ≤ d ∧ d ≤ 3652059 ∧ 0 ≤ m ∧ m < 1440 then (d * 1440 + m, 0) else (0, 6)
theorem join_any (d m : Int) (p q : Option Bool) (hp : p = some (rightB d)) (hq : q = some (minB m)) :
    (p.bind fun t => (if t = true then (q.bind fun u => (if u = true then (some (wrap64 ((wrap64 (d * 1440)) + m), (0 : Int))) else (some (0, 6)))) else (some (0, 6)))) = some (joinOf d m) := by
  unfold joinOf
  rw [hp, hq, Option.bind_some]
  by_cases h : 1 ≤ d ∧ d ≤ 3652059
  · rw [if_pos (show rightB d = true by simp [rightB, h.1, h.2]), Option.bind_some]
    by_cases hm : 0 ≤ m ∧ m < 1440
    · rw [if_pos ((minB_iff m).2 hm), if_pos (by omega), wrap64_id (x := d * 1440) (by omega) (by omega), wrap64_id (by omega) (by omega)]
    · rw [minB_not hm, if_neg (by decide), if_neg (by omega)]
  · rw [if_neg (show ¬ rightB d = true by simp [rightB]; omega), if_neg (by omega)]
theorem Join_eq (d m : Int) : week_Join.f d m = some (joinOf d m) := join_any d m _ _ (Right_eq d) (wright_eq m)
theorem RJoin_eq (d m : Int) : dayshiftref02_Join.f d m = some (joinOf d m) := join_any d m _ _ (RRightW_eq d) (rright_eq m)
theorem WeekClocks : dayshiftlaw02_WeekClocks.Pure := by
  intro c b d m _ _ _ _
  refine ⟨101, ?_⟩
  have hk : dayshiftlaw02_known.f 100 = some true := known_ok 100 (by omega)
  unfold dayshiftlaw02_WeekClocks.f
  rw [Split_eq, RSplit_eq, Order_eq, ROrder_eq 101 (by omega), Join_eq, RJoin_eq]
  simp only [Option.bind_some, if_true, bne_self_eq_false, dayshiftlaw02_WeekClocks.j0, Bool.false_eq_true, if_false]
  unfold splitOf
  by_cases h : 1440 ≤ c ∧ c ≤ 5258966399
  · rw [if_pos h]
    simp only [if_true]
    rw [Join_eq, hk]
    unfold joinOf
    rw [if_pos (by omega)]
    simp
    omega
  · rw [if_neg h]
    simp [hk]
end Go.Proofs.Ytjfghphblgkoiaa.Pure
