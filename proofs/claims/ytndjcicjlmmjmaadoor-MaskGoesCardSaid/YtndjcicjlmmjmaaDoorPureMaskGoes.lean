import Derived.Test.YtndjcicjlmmjmaaDoorQMaskGoesXMask
import Derived.Test.YtndjcicjlmmjmaaDoorMDays
namespace Go.Proofs.YtndjcicjlmmjmaaDoor.Pure
open Go.RowKit Go.Proofs.YtndjcicjlmmjmaaDoor.PMaskGoes Go.Proofs.YtndjcicjlmmjmaaDoor.QMaskGoes Go.Proofs.YtndjcicjlmmjmaaDoor.MBits Go.Proofs.YtndjcicjlmmjmaaDoorW.PrintWords Go.Proofs.YtndjcicjlmmjmaaDoorW.PrintLast
set_option linter.unusedVariables false
set_option linter.unusedSimpArgs false
theorem bindOf {α β : Type} {x : Option α} {a : α} (h : x = some a) (f : α → Option β) : x.bind f = f a := by rw [h]; rfl
theorem goes_l0 (x : Int) (B : Nat → Bool) (hx : Rep x B) (l : List Int) (hl : dayList B = l) :
    ∀ (n i k : Nat), i + n = l.length → 2 * n + 41 < k → dayshiftlaw05_MaskGoes.l0 k x l (l.getD i 0) (if i < l.length then l.getD (l.length - 1 - i) 0 else 0) (i : Int) = some true := by
  have hlen : l.length ≤ 31 := hl ▸ dayList_length B
  have hs : l.Pairwise (· < ·) := hl ▸ dayList_sorted B
  intro n
  induction n with
  | zero =>
    intro i k hi hk
    obtain ⟨k, rfl⟩ : ∃ q, k = q + 1 := ⟨k - 1, by omega⟩
    have e : l.getD i 0 = 0 := by simp [List.getD, show l.length ≤ i by omega]
    rw [dayshiftlaw05_MaskGoes.l0.eq_2, if_neg (by omega), if_neg (by omega : ¬ i < l.length), e, if_pos rfl, if_pos rfl, bindOf (Nth_rep hx k (by omega) 0), hl, bindOf (Count_rep hx), hl]
    rw [if_pos (show nthOf l 0 = 0 by unfold nthOf; rw [if_neg (by omega), if_pos (by omega)]), if_pos rfl, bindOf (known_ok k (by omega))]
  | succ n ih =>
    intro i k hi hk
    obtain ⟨k, rfl⟩ : ∃ q, k = q + 2 := ⟨k - 2, by omega⟩
    have hn := ih (i + 1) k (by omega) (by omega)
    have w1 : wrap64 ((i : Int) + 1) = (i : Int) + 1 := wrap64_id (by omega) (by omega)
    have w2 : wrap64 (wrap64 ((l.length : Int) - 1) - i) = ((l.length - 1 - i : Nat) : Int) := by rw [wrap64_id (x := (l.length : Int) - 1) (by omega) (by omega), wrap64_id (by omega) (by omega)]; omega
    have w3 : wrap64 (-1 - (i : Int)) = -1 - (i : Int) := wrap64_id (by omega) (by omega)
    have r1 : rd l (i : Int) = l.getD i 0 := rfl
    have r2 : rd l ((l.length - 1 - i : Nat) : Int) = l.getD (l.length - 1 - i) 0 := rfl
    have n1 : nthOf l ((i : Int) + 1) = l.getD i 0 := by
      unfold nthOf
      rw [if_neg (by omega), if_neg (by omega), if_neg (by omega), show (i : Int) + 1 - 1 = i by omega]
      rfl
    have n2 : nthOf l (-1 - (i : Int)) = l.getD (l.length - 1 - i) 0 := by
      unfold nthOf
      rw [if_pos (by omega), if_neg (by omega), show (l.length : Int) + (-1 - (i : Int)) = ((l.length - 1 - i : Nat) : Int) by omega]
      rfl
    have hm : l.getD i 0 ∈ dayList B := by
      rw [hl]
      exact getD_mem l i (by omega)
    obtain ⟨m1, m2, m3⟩ := mem_dayList.1 hm
    have hh : mask_Month_Has.f x (l.getD i 0) = some true := by
      rw [Has_rep hx, m3, decide_eq_true ⟨m1, m2⟩]
      rfl
    have en := next_at l hs i (by omega)
    have ep := prev_at l hs (l.length - 1 - i) 0 (by omega)
    rw [if_pos (show i < l.length by omega)]
    rw [dayshiftlaw05_MaskGoes.l0.eq_2, if_pos (by omega), if_pos (by omega), r1, if_pos rfl, w1, bindOf (Nth_rep hx (k + 1) (by omega) _), hl, n1, if_pos rfl, w2, if_pos (by omega), if_pos (by omega), r2, if_pos rfl, w3, bindOf (Nth_rep hx (k + 1) (by omega) _), hl, n2, if_pos rfl, bindOf hh, dayshiftlaw05_MaskGoes.j1.eq_2, if_neg (by simp), bindOf (Next_rep hx _), bindOf (Prev_rep hx _), hl, en, ep, w1]
    have e3 : (if l.length - 1 - i = 0 then 0 else l.getD (l.length - 1 - i - 1) 0) = (if i + 1 < l.length then l.getD (l.length - 1 - (i + 1)) 0 else 0) := by
      by_cases c : i + 1 < l.length
      · rw [if_neg (by omega), if_pos c, show l.length - 1 - (i + 1) = l.length - 1 - i - 1 by omega]
      · rw [if_pos (by omega), if_neg c]
    rw [e3]
    exact hn
theorem MaskGoes : dayshiftlaw05_MaskGoes.Pure := by
  intro a0 w0
  obtain ⟨M, rfl, hM⟩ := wfu32 w0
  have hx := Rep.of M hM
  obtain ⟨k, hk⟩ : ∃ k, 200 ≤ k := ⟨200, Nat.le_refl _⟩
  refine ⟨k, ?_⟩
  unfold dayshiftlaw05_MaskGoes.f
  have hlen := dayList_length M.testBit
  have h1 : (dayList M.testBit).filter (fun z => decide (0 < z)) = dayList M.testBit := by
    rw [List.filter_eq_self]
    intro z hz
    have := mem_dayList.1 hz
    simp
    omega
  have h2 : (dayList M.testBit).filter (fun z => decide (z < 32)) = dayList M.testBit := by
    rw [List.filter_eq_self]
    intro z hz
    have := mem_dayList.1 hz
    simp
    omega
  rw [bindOf (List_rep hx k (by omega)), bindOf (Next_rep hx 0), bindOf (Prev_rep hx 32), h1, h2, headD_getD, getLastD_getD]
  exact goes_l0 (M : Int) M.testBit hx _ rfl (dayList M.testBit).length 0 k (by omega) (by omega)
end Go.Proofs.YtndjcicjlmmjmaaDoor.Pure
