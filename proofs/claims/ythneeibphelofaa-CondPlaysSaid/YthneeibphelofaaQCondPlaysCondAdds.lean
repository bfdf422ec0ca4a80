/- What a store holds behind additions. No conditions beyond those that each theorem names. -/
import Derived.Test.YthneeibphelofaaQCondPlaysCondKnown
namespace Go.Proofs.Ythneeibphelofaa.QCondPlays
open Go.RowKit Go.Proofs.Ythneeibphelofaa.PCondPlays Go.Proofs.YthneeibphelofaaW.PrintWords Go.Proofs.YthneeibphelofaaW.PrintLast Go.Proofs.YthneeibphelofaaW.PrintMore
set_option linter.unusedVariables false
set_option linter.unusedSimpArgs false
/-- Whether one can be. -/
def goodC (c : C) : Prop := ¬ (c.f0.size = 0 ∨ 20 < c.f0.size ∨ ¬ (1 ≤ c.f1 ∧ c.f1 ≤ 3652059))
def addsL (l : List C) (L : List C) : List C := l.foldl addR L
theorem addsL_snoc (l : List C) (c : C) (L : List C) : addsL (l ++ [c]) L = addR (addsL l L) c := by simp [addsL, List.foldl_append]
theorem addsL_take (l : List C) (i : Nat) (h : i < l.length) (L : List C) : addsL (l.take (i + 1)) L = addR (addsL (l.take i) L) l[i] := by
  rw [List.take_succ_eq_append_getElem h, addsL_snoc]
/-- What is always so of a store. -/
structure Tame (L : List C) : Prop where
  len : L.length ≤ 128
  good : ∀ c ∈ L, goodC c
theorem Tame.nil : Tame [] := ⟨by simp, fun c hc => by cases hc⟩
theorem Tame.add {L : List C} (h : Tame L) (c : C) : Tame (addR L c) := by
  unfold addR
  by_cases e : addE L c = 0
  · rw [if_pos e]
    have hg : goodC c ∧ (c ∈ L ∨ L.length < 128) := by
      unfold addE at e
      by_cases g : c.f0.size = 0 ∨ 20 < c.f0.size ∨ ¬ (1 ≤ c.f1 ∧ c.f1 ≤ 3652059)
      · rw [if_pos g] at e; cases e
      rw [if_neg g] at e
      by_cases f : c ∉ L ∧ 128 ≤ L.length
      · rw [if_pos f] at e; cases e
      · refine ⟨g, ?_⟩
        by_cases hm : c ∈ L
        · exact .inl hm
        · exact .inr (by have : ¬ 128 ≤ L.length := fun z => f ⟨hm, z⟩; omega)
    refine ⟨?_, fun d hd => ?_⟩
    · rw [addL_length]
      have := h.len
      rcases hg.2 with z | z
      · rw [if_pos z]; exact this
      · split <;> omega
    · rcases (addL_mem c d L).mp hd with z | z
      · rw [z]; exact hg.1
      · exact h.good d z
  · rw [if_neg e]; exact h
theorem Tame.adds : ∀ (l : List C) {L : List C}, Tame L → Tame (addsL l L)
  | [], _, h => h
  | c :: l, _, h => Tame.adds l (h.add c)
theorem Tame.filter {L : List C} (h : Tame L) (p : C → Bool) : Tame (L.filter p) := ⟨Nat.le_trans (List.length_filter_le _ _) h.len, fun c hc => h.good c (List.mem_filter.mp hc).1⟩
end Go.Proofs.Ythneeibphelofaa.QCondPlays
