/-
  The days of a month as a rising list: the next one and the one before. No conditions beyond those that each theorem names.
-/
import Derived.Test.YtndjcicjlmmjmaaDoorMBits
namespace Go.Proofs.YtndjcicjlmmjmaaDoor.MBits
open Go.RowKit Go.Proofs.YtndjcicjlmmjmaaDoorW.PrintWords Go.Proofs.YtndjcicjlmmjmaaDoorW.PrintMore
set_option linter.unusedVariables false
set_option linter.unusedSimpArgs false
theorem dayList_sorted (B : Nat → Bool) : (dayList B).Pairwise (· < ·) := by
  unfold dayList idxs
  rw [List.pairwise_map]
  apply List.Pairwise.filter
  rw [List.pairwise_map]
  exact List.pairwise_lt_range.imp (by intro a b h; omega)
theorem mem_dayList {B : Nat → Bool} {z : Int} : z ∈ dayList B ↔ 1 ≤ z ∧ z ≤ 31 ∧ B (z - 1).toNat = true := by
  unfold dayList idxs
  simp only [List.mem_map, List.mem_filter, List.mem_range]
  constructor
  · rintro ⟨a, ⟨⟨b, hb, rfl⟩, h⟩, rfl⟩
    refine ⟨by omega, by omega, ?_⟩
    rw [show (((0 + b : Nat) : Int) + 1 - 1).toNat = 0 + b by omega]
    exact h
  · rintro ⟨h1, h2, h3⟩
    exact ⟨(z - 1).toNat, ⟨⟨(z - 1).toNat, by omega, by omega⟩, h3⟩, by omega⟩
theorem getD_mem (l : List Int) (i : Nat) (h : i < l.length) : l.getD i 0 ∈ l := by
  rw [show l.getD i 0 = l[i] from by simp [List.getD, h]]
  exact List.getElem_mem h
theorem next_at : ∀ (l : List Int), l.Pairwise (· < ·) → ∀ i, i < l.length → (l.filter (fun z => decide (l.getD i 0 < z))).headD 0 = l.getD (i + 1) 0
  | [], _, i, h => by simp at h
  | a :: t, hp, 0, h => by
    rw [List.pairwise_cons] at hp
    have : (t.filter (fun z => decide (a < z))) = t := by
      rw [List.filter_eq_self]
      intro z hz
      simpa using hp.1 z hz
    simp only [List.getD_cons_zero, List.filter_cons, Int.lt_irrefl, decide_false, Bool.false_eq_true, if_false, this, List.getD_cons_succ]
    cases t <;> rfl
  | a :: t, hp, i + 1, h => by
    rw [List.pairwise_cons] at hp
    have hi : i < t.length := by simpa using h
    have ha : ¬ t.getD i 0 < a := by
      have : t.getD i 0 ∈ t := getD_mem t i hi
      have := hp.1 _ this
      omega
    simp only [List.getD_cons_succ, List.filter_cons, ha, decide_false, Bool.false_eq_true, if_false]
    exact next_at t hp.2 i hi
theorem prev_at : ∀ (l : List Int), l.Pairwise (· < ·) → ∀ i d, i < l.length → (l.filter (fun z => decide (z < l.getD i 0))).getLastD d = if i = 0 then d else l.getD (i - 1) 0
  | [], _, i, d, h => by simp at h
  | a :: t, hp, 0, d, h => by
    rw [List.pairwise_cons] at hp
    have : (t.filter (fun z => decide (z < a))) = [] := by
      rw [List.filter_eq_nil_iff]
      intro z hz
      have := hp.1 z hz
      simp
      omega
    simp [List.filter_cons, this]
  | a :: t, hp, i + 1, d, h => by
    rw [List.pairwise_cons] at hp
    have hi : i < t.length := by simpa using h
    have ha : a < t.getD i 0 := by
      have : t.getD i 0 ∈ t := getD_mem t i hi
      exact hp.1 _ this
    simp only [List.getD_cons_succ, List.filter_cons, ha, decide_true, if_true, List.getLastD_cons]
    rw [prev_at t hp.2 i a hi]
    cases i with
    | zero => simp
    | succ i => simp
theorem headD_getD (l : List Int) : l.headD 0 = l.getD 0 0 := by cases l <;> rfl
theorem getLastD_getD (l : List Int) : l.getLastD 0 = if 0 < l.length then l.getD (l.length - 1) 0 else 0 := by
  cases l with
  | nil => rfl
  | cons a t => rw [if_pos (by simp), List.getLastD_cons, List.getLastD_eq_getLast?, List.getLast?_eq_getElem?]; cases t <;> simp [List.getD]
end Go.Proofs.YtndjcicjlmmjmaaDoor.MBits
