/-
  The reference's months of days, as lists of 32 truths. No conditions beyond those that each theorem names.
-/
import Derived.Test.YtndjcicjlmmjmaaDoorQMaskMakesXMask
namespace Go.Proofs.YtndjcicjlmmjmaaDoor.QMaskMakes
open Go.RowKit Go.Proofs.YtndjcicjlmmjmaaDoor.PMaskMakes Go.Proofs.YtndjcicjlmmjmaaDoorW.PrintWords Go.Proofs.YtndjcicjlmmjmaaDoorW.PrintLast Go.Proofs.YtndjcicjlmmjmaaDoorW.PrintMore Go.Proofs.YtndjcicjlmmjmaaDoor.MBits
set_option linter.unusedVariables false
set_option linter.unusedSimpArgs false
theorem bindO {α β : Type} {x : Option α} {a : α} (h : x = some a) (f : α → Option β) : x.bind f = f a := by rw [h]; rfl
/-- Days as the reference holds them. -/
def RL (B : Nat → Bool) : List Bool := (List.range 32).map fun j => decide (1 ≤ j) && B (j - 1)
theorem RL_len (B : Nat → Bool) : (RL B).length = 32 := by simp [RL]
theorem RL_congr {B C : Nat → Bool} (h : ∀ i, i < 31 → B i = C i) : RL B = RL C := by
  unfold RL
  apply List.map_congr_left
  intro j hj
  rw [List.mem_range] at hj
  by_cases h1 : 1 ≤ j
  · rw [h (j - 1) (by omega)]
  · simp [h1]
theorem RL_at (B : Nat → Bool) (d : Int) (h : 1 ≤ d) (h2 : d ≤ 31) : rdOf false (RL B) d = B (d - 1).toNat := by
  unfold rdOf RL
  have : d.toNat < 32 := by omega
  simp [List.getD, this]
  intro _
  omega
theorem RL_set (B : Nat → Bool) (i : Nat) (hi : i < 31) (b : Bool) : (RL B).set (((i : Int) + 1).toNat) b = RL (fun j => if j = i then b else B j) := by
  apply List.ext_getElem
  · simp [RL]
  · intro n h1 h2
    rw [List.getElem_set]
    have hn : n < 32 := by simpa [RL] using h2
    simp only [RL, List.getElem_map, List.getElem_range]
    rw [show ((i : Int) + 1).toNat = i + 1 by omega]
    by_cases c : i + 1 = n
    · subst c; simp
    · rw [if_neg c]
      by_cases c2 : 1 ≤ n
      · rw [if_neg (by omega)]
      · simp [c2]
theorem None_eq : dayshiftref05_None.f = some (RL fun _ => false) := by
  unfold dayshiftref05_None.f
  rw [if_pos (by omega)]
  decide +kernel
end Go.Proofs.YtndjcicjlmmjmaaDoor.QMaskMakes
