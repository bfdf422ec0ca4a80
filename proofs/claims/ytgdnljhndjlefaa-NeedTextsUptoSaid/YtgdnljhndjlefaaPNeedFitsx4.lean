/- This text holds, for Go functions of the given program, Lean functions with the same answers, and proofs that the machine's calls come to these answers; each theorem names its own conditions. It was laid by a program of this session. -/
import Derived.Test.YtgdnljhndjlefaaPNeedFitsx0
import Derived.Test.YtgdnljhndjlefaaPNeedFitsx3
namespace Go.Proofs.Ytgdnljhndjlefaa.PNeedFits
open Go.RowKit Go.Proofs.YtgdnljhndjlefaaW.PrintWords Go.Proofs.YtgdnljhndjlefaaW.PrintLast Go.Proofs.YtgdnljhndjlefaaW.PrintMore
attribute [local go_sem] max2_int min2_int max_two min_two max_three min_three max_four min_four   -- for this text's walks alone
set_option linter.unusedVariables false
set_option linter.unusedSimpArgs false

/-! ### dayshiftref14_Text: function 28 -/
def dayshiftref14_Text.l0 : Nat → List (S80) → ByteArray → Int → Option (ByteArray)
  | 0, _, _, _ => none
  | k + 1, x0, x3, x4 => if x4 < (x0.length : Int) then (if 0 ≤ x4 then (if ((rd_T80 x0 x4).f2) = 0 then (if ((rd_T80 x0 x4).f1) ≥ 0 then ((dayshiftref01_Digits.f k ((rd_T80 x0 x4).f1) 1).bind fun t198 => (if x4 > 0 then (if x3.size + 1 ≤ 9223372036854775807 then (if (x3 ++ (⟨#[32]⟩ : ByteArray)).size + ((rd_T80 x0 x4).f0).size ≤ 9223372036854775807 then (if ((x3 ++ (⟨#[32]⟩ : ByteArray)) ++ ((rd_T80 x0 x4).f0)).size + 1 ≤ 9223372036854775807 then (if (((x3 ++ (⟨#[32]⟩ : ByteArray)) ++ ((rd_T80 x0 x4).f0)) ++ (⟨#[58]⟩ : ByteArray)).size + t198.size ≤ 9223372036854775807 then (dayshiftref14_Text.l0 k x0 ((((x3 ++ (⟨#[32]⟩ : ByteArray)) ++ ((rd_T80 x0 x4).f0)) ++ (⟨#[58]⟩ : ByteArray)) ++ t198) (wrap64 (x4 + 1))) else (none)) else (none)) else (none)) else (none)) else (if x3.size + ((rd_T80 x0 x4).f0).size ≤ 9223372036854775807 then (if (x3 ++ ((rd_T80 x0 x4).f0)).size + 1 ≤ 9223372036854775807 then (if ((x3 ++ ((rd_T80 x0 x4).f0)) ++ (⟨#[58]⟩ : ByteArray)).size + t198.size ≤ 9223372036854775807 then (dayshiftref14_Text.l0 k x0 (((x3 ++ ((rd_T80 x0 x4).f0)) ++ (⟨#[58]⟩ : ByteArray)) ++ t198) (wrap64 (x4 + 1))) else (none)) else (none)) else (none)))) else (if x4 > 0 then (if x3.size + 1 ≤ 9223372036854775807 then (if (x3 ++ (⟨#[32]⟩ : ByteArray)).size + ((rd_T80 x0 x4).f0).size ≤ 9223372036854775807 then (if ((x3 ++ (⟨#[32]⟩ : ByteArray)) ++ ((rd_T80 x0 x4).f0)).size + 1 ≤ 9223372036854775807 then (if (((x3 ++ (⟨#[32]⟩ : ByteArray)) ++ ((rd_T80 x0 x4).f0)) ++ (⟨#[58]⟩ : ByteArray)).size + 1 ≤ 9223372036854775807 then (dayshiftref14_Text.l0 k x0 ((((x3 ++ (⟨#[32]⟩ : ByteArray)) ++ ((rd_T80 x0 x4).f0)) ++ (⟨#[58]⟩ : ByteArray)) ++ (⟨#[63]⟩ : ByteArray)) (wrap64 (x4 + 1))) else (none)) else (none)) else (none)) else (none)) else (if x3.size + ((rd_T80 x0 x4).f0).size ≤ 9223372036854775807 then (if (x3 ++ ((rd_T80 x0 x4).f0)).size + 1 ≤ 9223372036854775807 then (if ((x3 ++ ((rd_T80 x0 x4).f0)) ++ (⟨#[58]⟩ : ByteArray)).size + 1 ≤ 9223372036854775807 then (dayshiftref14_Text.l0 k x0 (((x3 ++ ((rd_T80 x0 x4).f0)) ++ (⟨#[58]⟩ : ByteArray)) ++ (⟨#[63]⟩ : ByteArray)) (wrap64 (x4 + 1))) else (none)) else (none)) else (none)))) else (if ((rd_T80 x0 x4).f2) = 1 then (if x4 > 0 then (if x3.size + 1 ≤ 9223372036854775807 then (if (x3 ++ (⟨#[32]⟩ : ByteArray)).size + ((rd_T80 x0 x4).f0).size ≤ 9223372036854775807 then (if ((x3 ++ (⟨#[32]⟩ : ByteArray)) ++ ((rd_T80 x0 x4).f0)).size + 1 ≤ 9223372036854775807 then (if (((x3 ++ (⟨#[32]⟩ : ByteArray)) ++ ((rd_T80 x0 x4).f0)) ++ (⟨#[58]⟩ : ByteArray)).size + 1 ≤ 9223372036854775807 then (dayshiftref14_Text.l0 k x0 ((((x3 ++ (⟨#[32]⟩ : ByteArray)) ++ ((rd_T80 x0 x4).f0)) ++ (⟨#[58]⟩ : ByteArray)) ++ (⟨#[115]⟩ : ByteArray)) (wrap64 (x4 + 1))) else (none)) else (none)) else (none)) else (none)) else (if x3.size + ((rd_T80 x0 x4).f0).size ≤ 9223372036854775807 then (if (x3 ++ ((rd_T80 x0 x4).f0)).size + 1 ≤ 9223372036854775807 then (if ((x3 ++ ((rd_T80 x0 x4).f0)) ++ (⟨#[58]⟩ : ByteArray)).size + 1 ≤ 9223372036854775807 then (dayshiftref14_Text.l0 k x0 (((x3 ++ ((rd_T80 x0 x4).f0)) ++ (⟨#[58]⟩ : ByteArray)) ++ (⟨#[115]⟩ : ByteArray)) (wrap64 (x4 + 1))) else (none)) else (none)) else (none))) else (if ((rd_T80 x0 x4).f2) = 2 then (if x4 > 0 then (if x3.size + 1 ≤ 9223372036854775807 then (if (x3 ++ (⟨#[32]⟩ : ByteArray)).size + ((rd_T80 x0 x4).f0).size ≤ 9223372036854775807 then (if ((x3 ++ (⟨#[32]⟩ : ByteArray)) ++ ((rd_T80 x0 x4).f0)).size + 1 ≤ 9223372036854775807 then (if (((x3 ++ (⟨#[32]⟩ : ByteArray)) ++ ((rd_T80 x0 x4).f0)) ++ (⟨#[58]⟩ : ByteArray)).size + 1 ≤ 9223372036854775807 then (dayshiftref14_Text.l0 k x0 ((((x3 ++ (⟨#[32]⟩ : ByteArray)) ++ ((rd_T80 x0 x4).f0)) ++ (⟨#[58]⟩ : ByteArray)) ++ (⟨#[120]⟩ : ByteArray)) (wrap64 (x4 + 1))) else (none)) else (none)) else (none)) else (none)) else (if x3.size + ((rd_T80 x0 x4).f0).size ≤ 9223372036854775807 then (if (x3 ++ ((rd_T80 x0 x4).f0)).size + 1 ≤ 9223372036854775807 then (if ((x3 ++ ((rd_T80 x0 x4).f0)) ++ (⟨#[58]⟩ : ByteArray)).size + 1 ≤ 9223372036854775807 then (dayshiftref14_Text.l0 k x0 (((x3 ++ ((rd_T80 x0 x4).f0)) ++ (⟨#[58]⟩ : ByteArray)) ++ (⟨#[120]⟩ : ByteArray)) (wrap64 (x4 + 1))) else (none)) else (none)) else (none))) else (if x4 > 0 then (if x3.size + 1 ≤ 9223372036854775807 then (if (x3 ++ (⟨#[32]⟩ : ByteArray)).size + ((rd_T80 x0 x4).f0).size ≤ 9223372036854775807 then (if ((x3 ++ (⟨#[32]⟩ : ByteArray)) ++ ((rd_T80 x0 x4).f0)).size + 1 ≤ 9223372036854775807 then (if (((x3 ++ (⟨#[32]⟩ : ByteArray)) ++ ((rd_T80 x0 x4).f0)) ++ (⟨#[58]⟩ : ByteArray)).size + 1 ≤ 9223372036854775807 then (dayshiftref14_Text.l0 k x0 ((((x3 ++ (⟨#[32]⟩ : ByteArray)) ++ ((rd_T80 x0 x4).f0)) ++ (⟨#[58]⟩ : ByteArray)) ++ (⟨#[63]⟩ : ByteArray)) (wrap64 (x4 + 1))) else (none)) else (none)) else (none)) else (none)) else (if x3.size + ((rd_T80 x0 x4).f0).size ≤ 9223372036854775807 then (if (x3 ++ ((rd_T80 x0 x4).f0)).size + 1 ≤ 9223372036854775807 then (if ((x3 ++ ((rd_T80 x0 x4).f0)) ++ (⟨#[58]⟩ : ByteArray)).size + 1 ≤ 9223372036854775807 then (dayshiftref14_Text.l0 k x0 (((x3 ++ ((rd_T80 x0 x4).f0)) ++ (⟨#[58]⟩ : ByteArray)) ++ (⟨#[63]⟩ : ByteArray)) (wrap64 (x4 + 1))) else (none)) else (none)) else (none)))))) else (none)) else (some x3)
def dayshiftref14_Text.f (k : Nat) (l0 : List (S80)) : Option (ByteArray) := dayshiftref14_Text.l0 k l0 (⟨#[]⟩ : ByteArray) 0
theorem dayshiftref14_Text.mono_l : ∀ k, (∀ y0 y1 y2, LeO (dayshiftref14_Text.l0 k y0 y1 y2) (dayshiftref14_Text.l0 (k + 1) y0 y1 y2))
  | 0 => fun _ _ _ r h => by simp [dayshiftref14_Text.l0] at h
  | k + 1 => by
    have ih0 := dayshiftref14_Text.mono_l k
    · intro y0 y1 y2
      unfold dayshiftref14_Text.l0
      repeat' first
      | (with_reducible exact ih0 _ _ _)
      | (with_reducible exact dayshiftref01_Digits.mono _ _ _)
      | (with_reducible exact LeO.refl _)
      | (with_reducible exact LeO.none _)
      | (with_reducible refine LeO.ite ?_ ?_)
      | (with_reducible refine LeO.bind ?_ (fun _ => ?_))
      | exact ih0 _ _ _
      | exact dayshiftref01_Digits.mono _ _ _
      | exact LeO.none _
      | refine LeO.ite ?_ ?_
      | refine LeO.bind ?_ (fun _ => ?_)
theorem dayshiftref14_Text.mono : ∀ a0 k, LeO (dayshiftref14_Text.f k a0) (dayshiftref14_Text.f (k + 1) a0) := by
  intro a0 k
  have ih0 := dayshiftref14_Text.mono_l k
  unfold dayshiftref14_Text.f
  repeat' first
      | (with_reducible exact ih0 _ _ _)
      | (with_reducible exact dayshiftref01_Digits.mono _ _ _)
      | (with_reducible exact LeO.refl _)
      | (with_reducible exact LeO.none _)
      | (with_reducible refine LeO.ite ?_ ?_)
      | (with_reducible refine LeO.bind ?_ (fun _ => ?_))
      | exact ih0 _ _ _
      | exact dayshiftref01_Digits.mono _ _ _
      | exact LeO.none _
      | refine LeO.ite ?_ ?_
      | refine LeO.bind ?_ (fun _ => ?_)
set_option maxHeartbeats 8000000 in
set_option maxRecDepth 100000 in
theorem dayshiftref14_Text.calls (k : Nat) (A0 : Option Addr) (c0 : Nat) (l0 : List (S80)) (r : ByteArray) (w : World) (hr0 : Kd.C k80 w A0 l0.length l0) (hc0 : l0.length ≤ c0) (h : dayshiftref14_Text.f k l0 = some r) :
    Calls Try.prog 28 #[.slice A0 l0.length c0] w fun e w' => e = .returned (.string r) ∧ Below w.heap.size w w' := by
  have HR0 := Aside0.mk hr0
  have HC0 := Aside0.mk hc0
  clear hr0 hc0
  have HB := Aside0.mk (Below.refl w.heap.size w)
  have H : (dayshiftref14_Text.l0 k l0 (⟨#[]⟩ : ByteArray) 0) = some r := h
  clear h
  have H' := Aside0.mk H
  clear H
  go_enter Try.func28, Try.ntmps28
  go_wp2
  go_loopg [3, 4] k (fun kq v3 v4 w' => ∃ (x3_1 : ByteArray) (x4_1 : Int), v3 = .string x3_1 ∧ v4 = .int .i64 x4_1 ∧ Aside0 (dayshiftref14_Text.l0 kq l0 x3_1 x4_1 = some r) ∧ Aside0 (kq ≤ k) ∧ Aside0 (Below w.heap.size w w'))
  case atStart => exact ⟨((⟨#[]⟩ : ByteArray)), (0), (by first | rfl | (simp; done) | (simp [*]; done)), (by first | rfl | (simp; done) | (simp [*]; done)), H', ⟨Nat.le_refl _⟩, ⟨by repeat (first | (with_reducible first | exact HB.out | apply below_alloc | apply pw_below_drewN | apply below_drew1) | exact HB.out)⟩⟩
  case round =>
    clear H'
    obtain ⟨x3_1, x4_1, rfl, rfl, HA, HK1, HB⟩ := hrel
    cases gk with
    | zero => exact absurd HA.out (by simp [dayshiftref14_Text.l0])
    | succ k1 =>
      have H := HA.out
      clear HA
      simp only [dayshiftref14_Text.l0] at H
      by_cases c2 : x4_1 < (l0.length : Int)
      · rw [if_pos c2] at H
        have c2b0 : decide (x4_1 < (l0.length : Int)) = true := decide_eq_true c2
        clear c2
        by_cases c3 : 0 ≤ x4_1
        · rw [if_pos c3] at H
          have c3b0 : decide (0 ≤ x4_1) = true := decide_eq_true c3
          clear c3
          by_cases c4 : ((rd_T80 l0 x4_1).f2) = 0
          · rw [if_pos c4] at H
            have c4b0 : (((rd_T80 l0 x4_1).f2) == 0) = true := beq_iff_eq.mpr c4
            have c4b1 : (((rd_T80 l0 x4_1).f2) != 0) = false := bne_eq_false_iff_eq.mpr c4
            clear c4
            by_cases c5 : ((rd_T80 l0 x4_1).f1) ≥ 0
            · rw [if_pos c5] at H
              have c5b0 : decide (0 ≤ ((rd_T80 l0 x4_1).f1)) = true := decide_eq_true c5
              clear c5
              replace H := Option.bind_eq_some_iff.mp H
              obtain ⟨t198, A60, H⟩ := H
              replace H : (if x4_1 > 0 then (if x3_1.size + 1 ≤ 9223372036854775807 then (if (x3_1 ++ (⟨#[32]⟩ : ByteArray)).size + ((rd_T80 l0 x4_1).f0).size ≤ 9223372036854775807 then (if ((x3_1 ++ (⟨#[32]⟩ : ByteArray)) ++ ((rd_T80 l0 x4_1).f0)).size + 1 ≤ 9223372036854775807 then (if (((x3_1 ++ (⟨#[32]⟩ : ByteArray)) ++ ((rd_T80 l0 x4_1).f0)) ++ (⟨#[58]⟩ : ByteArray)).size + t198.size ≤ 9223372036854775807 then (dayshiftref14_Text.l0 k1 l0 ((((x3_1 ++ (⟨#[32]⟩ : ByteArray)) ++ ((rd_T80 l0 x4_1).f0)) ++ (⟨#[58]⟩ : ByteArray)) ++ t198) (wrap64 (x4_1 + 1))) else (none)) else (none)) else (none)) else (none)) else (if x3_1.size + ((rd_T80 l0 x4_1).f0).size ≤ 9223372036854775807 then (if (x3_1 ++ ((rd_T80 l0 x4_1).f0)).size + 1 ≤ 9223372036854775807 then (if ((x3_1 ++ ((rd_T80 l0 x4_1).f0)) ++ (⟨#[58]⟩ : ByteArray)).size + t198.size ≤ 9223372036854775807 then (dayshiftref14_Text.l0 k1 l0 (((x3_1 ++ ((rd_T80 l0 x4_1).f0)) ++ (⟨#[58]⟩ : ByteArray)) ++ t198) (wrap64 (x4_1 + 1))) else (none)) else (none)) else (none))) = some r := H
              have A6 := Aside0.mk A60
              clear A60
              by_cases c7 : x4_1 > 0
              · rw [if_pos c7] at H
                have c7b0 : decide (0 < x4_1) = true := decide_eq_true c7
                clear c7
                by_cases c8 : x3_1.size + 1 ≤ 9223372036854775807
                · rw [if_pos c8] at H
                  have c8b0 := eq_true c8
                  have c8b1 : decide (x3_1.size + 1 ≤ 9223372036854775807) = true := decide_eq_true c8
                  try have c8b2 : (9223372036854775807 < x3_1.size + 1) = False := eq_false (Nat.not_lt.2 c8)
                  by_cases c9 : (x3_1 ++ (⟨#[32]⟩ : ByteArray)).size + ((rd_T80 l0 x4_1).f0).size ≤ 9223372036854775807
                  · rw [if_pos c9] at H
                    have c9b0 := eq_true c9
                    have c9b1 : decide ((x3_1 ++ (⟨#[32]⟩ : ByteArray)).size + ((rd_T80 l0 x4_1).f0).size ≤ 9223372036854775807) = true := decide_eq_true c9
                    try have c9b2 : (9223372036854775807 < (x3_1 ++ (⟨#[32]⟩ : ByteArray)).size + ((rd_T80 l0 x4_1).f0).size) = False := eq_false (Nat.not_lt.2 c9)
                    try have c9b3 : (9223372036854775807 < x3_1.size + 1 + (rd_T80 l0 x4_1).f0.size) = False := eq_false (by have h_ := c9; simp only [ByteArray.size_append, (show (⟨#[32]⟩ : ByteArray).size = 1 from rfl)] at h_; omega)
                    by_cases c10 : ((x3_1 ++ (⟨#[32]⟩ : ByteArray)) ++ ((rd_T80 l0 x4_1).f0)).size + 1 ≤ 9223372036854775807
                    · rw [if_pos c10] at H
                      have c10b0 := eq_true c10
                      have c10b1 : decide (((x3_1 ++ (⟨#[32]⟩ : ByteArray)) ++ ((rd_T80 l0 x4_1).f0)).size + 1 ≤ 9223372036854775807) = true := decide_eq_true c10
                      try have c10b2 : (9223372036854775807 < ((x3_1 ++ (⟨#[32]⟩ : ByteArray)) ++ ((rd_T80 l0 x4_1).f0)).size + 1) = False := eq_false (Nat.not_lt.2 c10)
                      try have c10b3 : (9223372036854775807 < x3_1.size + 1 + (rd_T80 l0 x4_1).f0.size + 1) = False := eq_false (by have h_ := c10; simp only [ByteArray.size_append, (show (⟨#[32]⟩ : ByteArray).size = 1 from rfl)] at h_; omega)
                      by_cases c11 : (((x3_1 ++ (⟨#[32]⟩ : ByteArray)) ++ ((rd_T80 l0 x4_1).f0)) ++ (⟨#[58]⟩ : ByteArray)).size + t198.size ≤ 9223372036854775807
                      · rw [if_pos c11] at H
                        have c11b0 := eq_true c11
                        have c11b1 : decide ((((x3_1 ++ (⟨#[32]⟩ : ByteArray)) ++ ((rd_T80 l0 x4_1).f0)) ++ (⟨#[58]⟩ : ByteArray)).size + t198.size ≤ 9223372036854775807) = true := decide_eq_true c11
                        try have c11b2 : (9223372036854775807 < (((x3_1 ++ (⟨#[32]⟩ : ByteArray)) ++ ((rd_T80 l0 x4_1).f0)) ++ (⟨#[58]⟩ : ByteArray)).size + t198.size) = False := eq_false (Nat.not_lt.2 c11)
                        try have c11b3 : (9223372036854775807 < x3_1.size + 1 + (rd_T80 l0 x4_1).f0.size + 1 + t198.size) = False := eq_false (by have h_ := c11; simp only [ByteArray.size_append, (show (⟨#[32]⟩ : ByteArray).size = 1 from rfl), (show (⟨#[58]⟩ : ByteArray).size = 1 from rfl)] at h_; omega)
                        have H' := Aside0.mk H
                        clear H
                        have p195 : 0 ≤ (x4_1 : Int) := of_decide_eq_true (by first | (with_reducible assumption) | assumption)
                        have q195 : x4_1 < (l0.length : Int) := of_decide_eq_true (by first | (with_reducible assumption) | assumption)
                        obtain ⟨ad195, e195, hx195_0, hx195_1, hx195_2⟩ := at_T80 HR0.out x4_1 p195 q195
                        cases e195
                        replace hx195_0 := (HB.out.cell (World.block_lt_of_cell? w _ hx195_0)).trans hx195_0
                        replace hx195_1 := (HB.out.cell (World.block_lt_of_cell? w _ hx195_1)).trans hx195_1
                        replace hx195_2 := (HB.out.cell (World.block_lt_of_cell? w _ hx195_2)).trans hx195_2
                        replace p195 := eq_true p195
                        replace q195 := eq_true q195
                        have p196 : 0 ≤ (x4_1 : Int) := of_decide_eq_true (by first | (with_reducible assumption) | assumption)
                        have q196 : x4_1 < (l0.length : Int) := of_decide_eq_true (by first | (with_reducible assumption) | assumption)
                        obtain ⟨ad196, e196, hx196_0, hx196_1, hx196_2⟩ := at_T80 HR0.out x4_1 p196 q196
                        obtain rfl : ad195 = ad196 := (by injection e196)
                        replace hx196_0 := (HB.out.cell (World.block_lt_of_cell? w _ hx196_0)).trans hx196_0
                        replace hx196_1 := (HB.out.cell (World.block_lt_of_cell? w _ hx196_1)).trans hx196_1
                        replace hx196_2 := (HB.out.cell (World.block_lt_of_cell? w _ hx196_2)).trans hx196_2
                        replace p196 := eq_true p196
                        replace q196 := eq_true q196
                        have p197 : 0 ≤ (x4_1 : Int) := of_decide_eq_true (by first | (with_reducible assumption) | assumption)
                        have q197 : x4_1 < (l0.length : Int) := of_decide_eq_true (by first | (with_reducible assumption) | assumption)
                        obtain ⟨ad197, e197, hx197_0, hx197_1, hx197_2⟩ := at_T80 HR0.out x4_1 p197 q197
                        obtain rfl : ad195 = ad197 := (by injection e197)
                        replace hx197_0 := (HB.out.cell (World.block_lt_of_cell? w _ hx197_0)).trans hx197_0
                        replace hx197_1 := (HB.out.cell (World.block_lt_of_cell? w _ hx197_1)).trans hx197_1
                        replace hx197_2 := (HB.out.cell (World.block_lt_of_cell? w _ hx197_2)).trans hx197_2
                        replace p197 := eq_true p197
                        replace q197 := eq_true q197
                        go_wp2_with (first | ((with_reducible refine gate_callee (f := 45) rfl ?_); refine goesL_ (some 30) rfl rfl Try.func45 (by kernel_rfl) rfl #[.int .i64 ((rd_T80 l0 x4_1).f1), .int .i64 1] rfl (by (try simp only [List.map_toArray, List.map_cons, List.map_nil]); first | done | rfl | (simp only [List.length_drop, List.length_take]; rfl)) ?_; (with_reducible refine (dayshiftref01_Digits.calls k1 ((rd_T80 l0 x4_1).f1) 1 t198 _ A6.out).mono ?_); rintro e w12 ⟨rfl, hb⟩; refine ⟨_, rfl, ?_⟩; have n0_ := Aside0.mk (below_step (by repeat (first | (with_reducible first | exact HB.out | apply below_alloc | apply pw_below_drewN | apply below_drew1) | exact HB.out)) hb); clear HB; have HB := n0_; clear n0_; (try clear hb); (try clear hb2); (try clear hk); (try clear hi); have p199 : 0 ≤ (x4_1 : Int) := of_decide_eq_true (by first | (with_reducible assumption) | assumption); have q199 : x4_1 < (l0.length : Int) := of_decide_eq_true (by first | (with_reducible assumption) | assumption); obtain ⟨ad199, e199, hx199_0, hx199_1, hx199_2⟩ := at_T80 HR0.out x4_1 p199 q199; obtain rfl : ad195 = ad199 := (by injection e199); replace hx199_0 := (HB.out.cell (World.block_lt_of_cell? w _ hx199_0)).trans hx199_0; replace hx199_1 := (HB.out.cell (World.block_lt_of_cell? w _ hx199_1)).trans hx199_1; replace hx199_2 := (HB.out.cell (World.block_lt_of_cell? w _ hx199_2)).trans hx199_2; replace p199 := eq_true p199; replace q199 := eq_true q199))
                        go_roundg k1
                        case measure => have := HK1.out; omega
                        case rel => exact ⟨((((x3_1 ++ (⟨#[32]⟩ : ByteArray)) ++ ((rd_T80 l0 x4_1).f0)) ++ (⟨#[58]⟩ : ByteArray)) ++ t198), (wrap64 (x4_1 + 1)), (by first | rfl | (simp; done) | (simp [*]; done)), (by first | rfl | (simp; done) | (simp [*]; done)), H', ⟨by have := HK1.out; omega⟩, ⟨by repeat (first | (with_reducible first | exact HB.out | apply below_alloc | apply pw_below_drewN | apply below_drew1) | exact HB.out)⟩⟩
                      · rw [if_neg c11] at H
                        exact absurd H (by simp)
                    · rw [if_neg c10] at H
                      exact absurd H (by simp)
                  · rw [if_neg c9] at H
                    exact absurd H (by simp)
                · rw [if_neg c8] at H
                  exact absurd H (by simp)
              · rw [if_neg c7] at H
                have c7b0 : decide (0 < x4_1) = false := decide_eq_false c7
                clear c7
                by_cases c13 : x3_1.size + ((rd_T80 l0 x4_1).f0).size ≤ 9223372036854775807
                · rw [if_pos c13] at H
                  have c13b0 := eq_true c13
                  have c13b1 : decide (x3_1.size + ((rd_T80 l0 x4_1).f0).size ≤ 9223372036854775807) = true := decide_eq_true c13
                  try have c13b2 : (9223372036854775807 < x3_1.size + ((rd_T80 l0 x4_1).f0).size) = False := eq_false (Nat.not_lt.2 c13)
                  by_cases c14 : (x3_1 ++ ((rd_T80 l0 x4_1).f0)).size + 1 ≤ 9223372036854775807
                  · rw [if_pos c14] at H
                    have c14b0 := eq_true c14
                    have c14b1 : decide ((x3_1 ++ ((rd_T80 l0 x4_1).f0)).size + 1 ≤ 9223372036854775807) = true := decide_eq_true c14
                    try have c14b2 : (9223372036854775807 < (x3_1 ++ ((rd_T80 l0 x4_1).f0)).size + 1) = False := eq_false (Nat.not_lt.2 c14)
                    try have c14b3 : (9223372036854775807 < x3_1.size + (rd_T80 l0 x4_1).f0.size + 1) = False := eq_false (by have h_ := c14; simp only [ByteArray.size_append] at h_; omega)
                    by_cases c15 : ((x3_1 ++ ((rd_T80 l0 x4_1).f0)) ++ (⟨#[58]⟩ : ByteArray)).size + t198.size ≤ 9223372036854775807
                    · rw [if_pos c15] at H
                      have c15b0 := eq_true c15
                      have c15b1 : decide (((x3_1 ++ ((rd_T80 l0 x4_1).f0)) ++ (⟨#[58]⟩ : ByteArray)).size + t198.size ≤ 9223372036854775807) = true := decide_eq_true c15
                      try have c15b2 : (9223372036854775807 < ((x3_1 ++ ((rd_T80 l0 x4_1).f0)) ++ (⟨#[58]⟩ : ByteArray)).size + t198.size) = False := eq_false (Nat.not_lt.2 c15)
                      try have c15b3 : (9223372036854775807 < x3_1.size + (rd_T80 l0 x4_1).f0.size + 1 + t198.size) = False := eq_false (by have h_ := c15; simp only [ByteArray.size_append, (show (⟨#[58]⟩ : ByteArray).size = 1 from rfl)] at h_; omega)
                      have H' := Aside0.mk H
                      clear H
                      have p195 : 0 ≤ (x4_1 : Int) := of_decide_eq_true (by first | (with_reducible assumption) | assumption)
                      have q195 : x4_1 < (l0.length : Int) := of_decide_eq_true (by first | (with_reducible assumption) | assumption)
                      obtain ⟨ad195, e195, hx195_0, hx195_1, hx195_2⟩ := at_T80 HR0.out x4_1 p195 q195
                      cases e195
                      replace hx195_0 := (HB.out.cell (World.block_lt_of_cell? w _ hx195_0)).trans hx195_0
                      replace hx195_1 := (HB.out.cell (World.block_lt_of_cell? w _ hx195_1)).trans hx195_1
                      replace hx195_2 := (HB.out.cell (World.block_lt_of_cell? w _ hx195_2)).trans hx195_2
                      replace p195 := eq_true p195
                      replace q195 := eq_true q195
                      have p196 : 0 ≤ (x4_1 : Int) := of_decide_eq_true (by first | (with_reducible assumption) | assumption)
                      have q196 : x4_1 < (l0.length : Int) := of_decide_eq_true (by first | (with_reducible assumption) | assumption)
                      obtain ⟨ad196, e196, hx196_0, hx196_1, hx196_2⟩ := at_T80 HR0.out x4_1 p196 q196
                      obtain rfl : ad195 = ad196 := (by injection e196)
                      replace hx196_0 := (HB.out.cell (World.block_lt_of_cell? w _ hx196_0)).trans hx196_0
                      replace hx196_1 := (HB.out.cell (World.block_lt_of_cell? w _ hx196_1)).trans hx196_1
                      replace hx196_2 := (HB.out.cell (World.block_lt_of_cell? w _ hx196_2)).trans hx196_2
                      replace p196 := eq_true p196
                      replace q196 := eq_true q196
                      have p197 : 0 ≤ (x4_1 : Int) := of_decide_eq_true (by first | (with_reducible assumption) | assumption)
                      have q197 : x4_1 < (l0.length : Int) := of_decide_eq_true (by first | (with_reducible assumption) | assumption)
                      obtain ⟨ad197, e197, hx197_0, hx197_1, hx197_2⟩ := at_T80 HR0.out x4_1 p197 q197
                      obtain rfl : ad195 = ad197 := (by injection e197)
                      replace hx197_0 := (HB.out.cell (World.block_lt_of_cell? w _ hx197_0)).trans hx197_0
                      replace hx197_1 := (HB.out.cell (World.block_lt_of_cell? w _ hx197_1)).trans hx197_1
                      replace hx197_2 := (HB.out.cell (World.block_lt_of_cell? w _ hx197_2)).trans hx197_2
                      replace p197 := eq_true p197
                      replace q197 := eq_true q197
                      go_wp2_with (first | ((with_reducible refine gate_callee (f := 45) rfl ?_); refine goesL_ (some 30) rfl rfl Try.func45 (by kernel_rfl) rfl #[.int .i64 ((rd_T80 l0 x4_1).f1), .int .i64 1] rfl (by (try simp only [List.map_toArray, List.map_cons, List.map_nil]); first | done | rfl | (simp only [List.length_drop, List.length_take]; rfl)) ?_; (with_reducible refine (dayshiftref01_Digits.calls k1 ((rd_T80 l0 x4_1).f1) 1 t198 _ A6.out).mono ?_); rintro e w16 ⟨rfl, hb⟩; refine ⟨_, rfl, ?_⟩; have n0_ := Aside0.mk (below_step (by repeat (first | (with_reducible first | exact HB.out | apply below_alloc | apply pw_below_drewN | apply below_drew1) | exact HB.out)) hb); clear HB; have HB := n0_; clear n0_; (try clear hb); (try clear hb2); (try clear hk); (try clear hi); have p200 : 0 ≤ (x4_1 : Int) := of_decide_eq_true (by first | (with_reducible assumption) | assumption); have q200 : x4_1 < (l0.length : Int) := of_decide_eq_true (by first | (with_reducible assumption) | assumption); obtain ⟨ad200, e200, hx200_0, hx200_1, hx200_2⟩ := at_T80 HR0.out x4_1 p200 q200; obtain rfl : ad195 = ad200 := (by injection e200); replace hx200_0 := (HB.out.cell (World.block_lt_of_cell? w _ hx200_0)).trans hx200_0; replace hx200_1 := (HB.out.cell (World.block_lt_of_cell? w _ hx200_1)).trans hx200_1; replace hx200_2 := (HB.out.cell (World.block_lt_of_cell? w _ hx200_2)).trans hx200_2; replace p200 := eq_true p200; replace q200 := eq_true q200))
                      go_roundg k1
                      case measure => have := HK1.out; omega
                      case rel => exact ⟨(((x3_1 ++ ((rd_T80 l0 x4_1).f0)) ++ (⟨#[58]⟩ : ByteArray)) ++ t198), (wrap64 (x4_1 + 1)), (by first | rfl | (simp; done) | (simp [*]; done)), (by first | rfl | (simp; done) | (simp [*]; done)), H', ⟨by have := HK1.out; omega⟩, ⟨by repeat (first | (with_reducible first | exact HB.out | apply below_alloc | apply pw_below_drewN | apply below_drew1) | exact HB.out)⟩⟩
                    · rw [if_neg c15] at H
                      exact absurd H (by simp)
                  · rw [if_neg c14] at H
                    exact absurd H (by simp)
                · rw [if_neg c13] at H
                  exact absurd H (by simp)
            · rw [if_neg c5] at H
              have c5b0 : decide (0 ≤ ((rd_T80 l0 x4_1).f1)) = false := decide_eq_false c5
              clear c5
              by_cases c17 : x4_1 > 0
              · rw [if_pos c17] at H
                have c17b0 : decide (0 < x4_1) = true := decide_eq_true c17
                clear c17
                by_cases c18 : x3_1.size + 1 ≤ 9223372036854775807
                · rw [if_pos c18] at H
                  have c18b0 := eq_true c18
                  have c18b1 : decide (x3_1.size + 1 ≤ 9223372036854775807) = true := decide_eq_true c18
                  try have c18b2 : (9223372036854775807 < x3_1.size + 1) = False := eq_false (Nat.not_lt.2 c18)
                  by_cases c19 : (x3_1 ++ (⟨#[32]⟩ : ByteArray)).size + ((rd_T80 l0 x4_1).f0).size ≤ 9223372036854775807
                  · rw [if_pos c19] at H
                    have c19b0 := eq_true c19
                    have c19b1 : decide ((x3_1 ++ (⟨#[32]⟩ : ByteArray)).size + ((rd_T80 l0 x4_1).f0).size ≤ 9223372036854775807) = true := decide_eq_true c19
                    try have c19b2 : (9223372036854775807 < (x3_1 ++ (⟨#[32]⟩ : ByteArray)).size + ((rd_T80 l0 x4_1).f0).size) = False := eq_false (Nat.not_lt.2 c19)
                    try have c19b3 : (9223372036854775807 < x3_1.size + 1 + (rd_T80 l0 x4_1).f0.size) = False := eq_false (by have h_ := c19; simp only [ByteArray.size_append, (show (⟨#[32]⟩ : ByteArray).size = 1 from rfl)] at h_; omega)
                    by_cases c20 : ((x3_1 ++ (⟨#[32]⟩ : ByteArray)) ++ ((rd_T80 l0 x4_1).f0)).size + 1 ≤ 9223372036854775807
                    · rw [if_pos c20] at H
                      have c20b0 := eq_true c20
                      have c20b1 : decide (((x3_1 ++ (⟨#[32]⟩ : ByteArray)) ++ ((rd_T80 l0 x4_1).f0)).size + 1 ≤ 9223372036854775807) = true := decide_eq_true c20
                      try have c20b2 : (9223372036854775807 < ((x3_1 ++ (⟨#[32]⟩ : ByteArray)) ++ ((rd_T80 l0 x4_1).f0)).size + 1) = False := eq_false (Nat.not_lt.2 c20)
                      try have c20b3 : (9223372036854775807 < x3_1.size + 1 + (rd_T80 l0 x4_1).f0.size + 1) = False := eq_false (by have h_ := c20; simp only [ByteArray.size_append, (show (⟨#[32]⟩ : ByteArray).size = 1 from rfl)] at h_; omega)
                      by_cases c21 : (((x3_1 ++ (⟨#[32]⟩ : ByteArray)) ++ ((rd_T80 l0 x4_1).f0)) ++ (⟨#[58]⟩ : ByteArray)).size + 1 ≤ 9223372036854775807
                      · rw [if_pos c21] at H
                        have c21b0 := eq_true c21
                        have c21b1 : decide ((((x3_1 ++ (⟨#[32]⟩ : ByteArray)) ++ ((rd_T80 l0 x4_1).f0)) ++ (⟨#[58]⟩ : ByteArray)).size + 1 ≤ 9223372036854775807) = true := decide_eq_true c21
                        try have c21b2 : (9223372036854775807 < (((x3_1 ++ (⟨#[32]⟩ : ByteArray)) ++ ((rd_T80 l0 x4_1).f0)) ++ (⟨#[58]⟩ : ByteArray)).size + 1) = False := eq_false (Nat.not_lt.2 c21)
                        try have c21b3 : (9223372036854775807 < x3_1.size + 1 + (rd_T80 l0 x4_1).f0.size + 1 + 1) = False := eq_false (by have h_ := c21; simp only [ByteArray.size_append, (show (⟨#[32]⟩ : ByteArray).size = 1 from rfl), (show (⟨#[58]⟩ : ByteArray).size = 1 from rfl)] at h_; omega)
                        have H' := Aside0.mk H
                        clear H
                        have p195 : 0 ≤ (x4_1 : Int) := of_decide_eq_true (by first | (with_reducible assumption) | assumption)
                        have q195 : x4_1 < (l0.length : Int) := of_decide_eq_true (by first | (with_reducible assumption) | assumption)
                        obtain ⟨ad195, e195, hx195_0, hx195_1, hx195_2⟩ := at_T80 HR0.out x4_1 p195 q195
                        cases e195
                        replace hx195_0 := (HB.out.cell (World.block_lt_of_cell? w _ hx195_0)).trans hx195_0
                        replace hx195_1 := (HB.out.cell (World.block_lt_of_cell? w _ hx195_1)).trans hx195_1
                        replace hx195_2 := (HB.out.cell (World.block_lt_of_cell? w _ hx195_2)).trans hx195_2
                        replace p195 := eq_true p195
                        replace q195 := eq_true q195
                        have p196 : 0 ≤ (x4_1 : Int) := of_decide_eq_true (by first | (with_reducible assumption) | assumption)
                        have q196 : x4_1 < (l0.length : Int) := of_decide_eq_true (by first | (with_reducible assumption) | assumption)
                        obtain ⟨ad196, e196, hx196_0, hx196_1, hx196_2⟩ := at_T80 HR0.out x4_1 p196 q196
                        obtain rfl : ad195 = ad196 := (by injection e196)
                        replace hx196_0 := (HB.out.cell (World.block_lt_of_cell? w _ hx196_0)).trans hx196_0
                        replace hx196_1 := (HB.out.cell (World.block_lt_of_cell? w _ hx196_1)).trans hx196_1
                        replace hx196_2 := (HB.out.cell (World.block_lt_of_cell? w _ hx196_2)).trans hx196_2
                        replace p196 := eq_true p196
                        replace q196 := eq_true q196
                        have p201 : 0 ≤ (x4_1 : Int) := of_decide_eq_true (by first | (with_reducible assumption) | assumption)
                        have q201 : x4_1 < (l0.length : Int) := of_decide_eq_true (by first | (with_reducible assumption) | assumption)
                        obtain ⟨ad201, e201, hx201_0, hx201_1, hx201_2⟩ := at_T80 HR0.out x4_1 p201 q201
                        obtain rfl : ad195 = ad201 := (by injection e201)
                        replace hx201_0 := (HB.out.cell (World.block_lt_of_cell? w _ hx201_0)).trans hx201_0
                        replace hx201_1 := (HB.out.cell (World.block_lt_of_cell? w _ hx201_1)).trans hx201_1
                        replace hx201_2 := (HB.out.cell (World.block_lt_of_cell? w _ hx201_2)).trans hx201_2
                        replace p201 := eq_true p201
                        replace q201 := eq_true q201
                        go_wp2
                        go_roundg k1
                        case measure => have := HK1.out; omega
                        case rel => exact ⟨((((x3_1 ++ (⟨#[32]⟩ : ByteArray)) ++ ((rd_T80 l0 x4_1).f0)) ++ (⟨#[58]⟩ : ByteArray)) ++ (⟨#[63]⟩ : ByteArray)), (wrap64 (x4_1 + 1)), (by first | rfl | (simp; done) | (simp [*]; done)), (by first | rfl | (simp; done) | (simp [*]; done)), H', ⟨by have := HK1.out; omega⟩, ⟨by repeat (first | (with_reducible first | exact HB.out | apply below_alloc | apply pw_below_drewN | apply below_drew1) | exact HB.out)⟩⟩
                      · rw [if_neg c21] at H
                        exact absurd H (by simp)
                    · rw [if_neg c20] at H
                      exact absurd H (by simp)
                  · rw [if_neg c19] at H
                    exact absurd H (by simp)
                · rw [if_neg c18] at H
                  exact absurd H (by simp)
              · rw [if_neg c17] at H
                have c17b0 : decide (0 < x4_1) = false := decide_eq_false c17
                clear c17
                by_cases c22 : x3_1.size + ((rd_T80 l0 x4_1).f0).size ≤ 9223372036854775807
                · rw [if_pos c22] at H
                  have c22b0 := eq_true c22
                  have c22b1 : decide (x3_1.size + ((rd_T80 l0 x4_1).f0).size ≤ 9223372036854775807) = true := decide_eq_true c22
                  try have c22b2 : (9223372036854775807 < x3_1.size + ((rd_T80 l0 x4_1).f0).size) = False := eq_false (Nat.not_lt.2 c22)
                  by_cases c23 : (x3_1 ++ ((rd_T80 l0 x4_1).f0)).size + 1 ≤ 9223372036854775807
                  · rw [if_pos c23] at H
                    have c23b0 := eq_true c23
                    have c23b1 : decide ((x3_1 ++ ((rd_T80 l0 x4_1).f0)).size + 1 ≤ 9223372036854775807) = true := decide_eq_true c23
                    try have c23b2 : (9223372036854775807 < (x3_1 ++ ((rd_T80 l0 x4_1).f0)).size + 1) = False := eq_false (Nat.not_lt.2 c23)
                    try have c23b3 : (9223372036854775807 < x3_1.size + (rd_T80 l0 x4_1).f0.size + 1) = False := eq_false (by have h_ := c23; simp only [ByteArray.size_append] at h_; omega)
                    by_cases c24 : ((x3_1 ++ ((rd_T80 l0 x4_1).f0)) ++ (⟨#[58]⟩ : ByteArray)).size + 1 ≤ 9223372036854775807
                    · rw [if_pos c24] at H
                      have c24b0 := eq_true c24
                      have c24b1 : decide (((x3_1 ++ ((rd_T80 l0 x4_1).f0)) ++ (⟨#[58]⟩ : ByteArray)).size + 1 ≤ 9223372036854775807) = true := decide_eq_true c24
                      try have c24b2 : (9223372036854775807 < ((x3_1 ++ ((rd_T80 l0 x4_1).f0)) ++ (⟨#[58]⟩ : ByteArray)).size + 1) = False := eq_false (Nat.not_lt.2 c24)
                      try have c24b3 : (9223372036854775807 < x3_1.size + (rd_T80 l0 x4_1).f0.size + 1 + 1) = False := eq_false (by have h_ := c24; simp only [ByteArray.size_append, (show (⟨#[58]⟩ : ByteArray).size = 1 from rfl)] at h_; omega)
                      have H' := Aside0.mk H
                      clear H
                      have p195 : 0 ≤ (x4_1 : Int) := of_decide_eq_true (by first | (with_reducible assumption) | assumption)
                      have q195 : x4_1 < (l0.length : Int) := of_decide_eq_true (by first | (with_reducible assumption) | assumption)
                      obtain ⟨ad195, e195, hx195_0, hx195_1, hx195_2⟩ := at_T80 HR0.out x4_1 p195 q195
                      cases e195
                      replace hx195_0 := (HB.out.cell (World.block_lt_of_cell? w _ hx195_0)).trans hx195_0
                      replace hx195_1 := (HB.out.cell (World.block_lt_of_cell? w _ hx195_1)).trans hx195_1
                      replace hx195_2 := (HB.out.cell (World.block_lt_of_cell? w _ hx195_2)).trans hx195_2
                      replace p195 := eq_true p195
                      replace q195 := eq_true q195
                      have p196 : 0 ≤ (x4_1 : Int) := of_decide_eq_true (by first | (with_reducible assumption) | assumption)
                      have q196 : x4_1 < (l0.length : Int) := of_decide_eq_true (by first | (with_reducible assumption) | assumption)
                      obtain ⟨ad196, e196, hx196_0, hx196_1, hx196_2⟩ := at_T80 HR0.out x4_1 p196 q196
                      obtain rfl : ad195 = ad196 := (by injection e196)
                      replace hx196_0 := (HB.out.cell (World.block_lt_of_cell? w _ hx196_0)).trans hx196_0
                      replace hx196_1 := (HB.out.cell (World.block_lt_of_cell? w _ hx196_1)).trans hx196_1
                      replace hx196_2 := (HB.out.cell (World.block_lt_of_cell? w _ hx196_2)).trans hx196_2
                      replace p196 := eq_true p196
                      replace q196 := eq_true q196
                      have p202 : 0 ≤ (x4_1 : Int) := of_decide_eq_true (by first | (with_reducible assumption) | assumption)
                      have q202 : x4_1 < (l0.length : Int) := of_decide_eq_true (by first | (with_reducible assumption) | assumption)
                      obtain ⟨ad202, e202, hx202_0, hx202_1, hx202_2⟩ := at_T80 HR0.out x4_1 p202 q202
                      obtain rfl : ad195 = ad202 := (by injection e202)
                      replace hx202_0 := (HB.out.cell (World.block_lt_of_cell? w _ hx202_0)).trans hx202_0
                      replace hx202_1 := (HB.out.cell (World.block_lt_of_cell? w _ hx202_1)).trans hx202_1
                      replace hx202_2 := (HB.out.cell (World.block_lt_of_cell? w _ hx202_2)).trans hx202_2
                      replace p202 := eq_true p202
                      replace q202 := eq_true q202
                      go_wp2
                      go_roundg k1
                      case measure => have := HK1.out; omega
                      case rel => exact ⟨(((x3_1 ++ ((rd_T80 l0 x4_1).f0)) ++ (⟨#[58]⟩ : ByteArray)) ++ (⟨#[63]⟩ : ByteArray)), (wrap64 (x4_1 + 1)), (by first | rfl | (simp; done) | (simp [*]; done)), (by first | rfl | (simp; done) | (simp [*]; done)), H', ⟨by have := HK1.out; omega⟩, ⟨by repeat (first | (with_reducible first | exact HB.out | apply below_alloc | apply pw_below_drewN | apply below_drew1) | exact HB.out)⟩⟩
                    · rw [if_neg c24] at H
                      exact absurd H (by simp)
                  · rw [if_neg c23] at H
                    exact absurd H (by simp)
                · rw [if_neg c22] at H
                  exact absurd H (by simp)
          · rw [if_neg c4] at H
            have c4b0 : (((rd_T80 l0 x4_1).f2) == 0) = false := beq_eq_false_iff_ne.mpr c4
            have c4b1 : (((rd_T80 l0 x4_1).f2) != 0) = true := bne_iff_ne.mpr c4
            by_cases c25 : ((rd_T80 l0 x4_1).f2) = 1
            · rw [if_pos c25] at H
              have c25b0 : (((rd_T80 l0 x4_1).f2) == 1) = true := beq_iff_eq.mpr c25
              have c25b1 : (((rd_T80 l0 x4_1).f2) != 1) = false := bne_eq_false_iff_eq.mpr c25
              clear c25
              by_cases c26 : x4_1 > 0
              · rw [if_pos c26] at H
                have c26b0 : decide (0 < x4_1) = true := decide_eq_true c26
                clear c26
                by_cases c27 : x3_1.size + 1 ≤ 9223372036854775807
                · rw [if_pos c27] at H
                  have c27b0 := eq_true c27
                  have c27b1 : decide (x3_1.size + 1 ≤ 9223372036854775807) = true := decide_eq_true c27
                  try have c27b2 : (9223372036854775807 < x3_1.size + 1) = False := eq_false (Nat.not_lt.2 c27)
                  by_cases c28 : (x3_1 ++ (⟨#[32]⟩ : ByteArray)).size + ((rd_T80 l0 x4_1).f0).size ≤ 9223372036854775807
                  · rw [if_pos c28] at H
                    have c28b0 := eq_true c28
                    have c28b1 : decide ((x3_1 ++ (⟨#[32]⟩ : ByteArray)).size + ((rd_T80 l0 x4_1).f0).size ≤ 9223372036854775807) = true := decide_eq_true c28
                    try have c28b2 : (9223372036854775807 < (x3_1 ++ (⟨#[32]⟩ : ByteArray)).size + ((rd_T80 l0 x4_1).f0).size) = False := eq_false (Nat.not_lt.2 c28)
                    try have c28b3 : (9223372036854775807 < x3_1.size + 1 + (rd_T80 l0 x4_1).f0.size) = False := eq_false (by have h_ := c28; simp only [ByteArray.size_append, (show (⟨#[32]⟩ : ByteArray).size = 1 from rfl)] at h_; omega)
                    by_cases c29 : ((x3_1 ++ (⟨#[32]⟩ : ByteArray)) ++ ((rd_T80 l0 x4_1).f0)).size + 1 ≤ 9223372036854775807
                    · rw [if_pos c29] at H
                      have c29b0 := eq_true c29
                      have c29b1 : decide (((x3_1 ++ (⟨#[32]⟩ : ByteArray)) ++ ((rd_T80 l0 x4_1).f0)).size + 1 ≤ 9223372036854775807) = true := decide_eq_true c29
                      try have c29b2 : (9223372036854775807 < ((x3_1 ++ (⟨#[32]⟩ : ByteArray)) ++ ((rd_T80 l0 x4_1).f0)).size + 1) = False := eq_false (Nat.not_lt.2 c29)
                      try have c29b3 : (9223372036854775807 < x3_1.size + 1 + (rd_T80 l0 x4_1).f0.size + 1) = False := eq_false (by have h_ := c29; simp only [ByteArray.size_append, (show (⟨#[32]⟩ : ByteArray).size = 1 from rfl)] at h_; omega)
                      by_cases c30 : (((x3_1 ++ (⟨#[32]⟩ : ByteArray)) ++ ((rd_T80 l0 x4_1).f0)) ++ (⟨#[58]⟩ : ByteArray)).size + 1 ≤ 9223372036854775807
                      · rw [if_pos c30] at H
                        have c30b0 := eq_true c30
                        have c30b1 : decide ((((x3_1 ++ (⟨#[32]⟩ : ByteArray)) ++ ((rd_T80 l0 x4_1).f0)) ++ (⟨#[58]⟩ : ByteArray)).size + 1 ≤ 9223372036854775807) = true := decide_eq_true c30
                        try have c30b2 : (9223372036854775807 < (((x3_1 ++ (⟨#[32]⟩ : ByteArray)) ++ ((rd_T80 l0 x4_1).f0)) ++ (⟨#[58]⟩ : ByteArray)).size + 1) = False := eq_false (Nat.not_lt.2 c30)
                        try have c30b3 : (9223372036854775807 < x3_1.size + 1 + (rd_T80 l0 x4_1).f0.size + 1 + 1) = False := eq_false (by have h_ := c30; simp only [ByteArray.size_append, (show (⟨#[32]⟩ : ByteArray).size = 1 from rfl), (show (⟨#[58]⟩ : ByteArray).size = 1 from rfl)] at h_; omega)
                        have H' := Aside0.mk H
                        clear H
                        have p195 : 0 ≤ (x4_1 : Int) := of_decide_eq_true (by first | (with_reducible assumption) | assumption)
                        have q195 : x4_1 < (l0.length : Int) := of_decide_eq_true (by first | (with_reducible assumption) | assumption)
                        obtain ⟨ad195, e195, hx195_0, hx195_1, hx195_2⟩ := at_T80 HR0.out x4_1 p195 q195
                        cases e195
                        replace hx195_0 := (HB.out.cell (World.block_lt_of_cell? w _ hx195_0)).trans hx195_0
                        replace hx195_1 := (HB.out.cell (World.block_lt_of_cell? w _ hx195_1)).trans hx195_1
                        replace hx195_2 := (HB.out.cell (World.block_lt_of_cell? w _ hx195_2)).trans hx195_2
                        replace p195 := eq_true p195
                        replace q195 := eq_true q195
                        have p203 : 0 ≤ (x4_1 : Int) := of_decide_eq_true (by first | (with_reducible assumption) | assumption)
                        have q203 : x4_1 < (l0.length : Int) := of_decide_eq_true (by first | (with_reducible assumption) | assumption)
                        obtain ⟨ad203, e203, hx203_0, hx203_1, hx203_2⟩ := at_T80 HR0.out x4_1 p203 q203
                        obtain rfl : ad195 = ad203 := (by injection e203)
                        replace hx203_0 := (HB.out.cell (World.block_lt_of_cell? w _ hx203_0)).trans hx203_0
                        replace hx203_1 := (HB.out.cell (World.block_lt_of_cell? w _ hx203_1)).trans hx203_1
                        replace hx203_2 := (HB.out.cell (World.block_lt_of_cell? w _ hx203_2)).trans hx203_2
                        replace p203 := eq_true p203
                        replace q203 := eq_true q203
                        go_wp2
                        go_roundg k1
                        case measure => have := HK1.out; omega
                        case rel => exact ⟨((((x3_1 ++ (⟨#[32]⟩ : ByteArray)) ++ ((rd_T80 l0 x4_1).f0)) ++ (⟨#[58]⟩ : ByteArray)) ++ (⟨#[115]⟩ : ByteArray)), (wrap64 (x4_1 + 1)), (by first | rfl | (simp; done) | (simp [*]; done)), (by first | rfl | (simp; done) | (simp [*]; done)), H', ⟨by have := HK1.out; omega⟩, ⟨by repeat (first | (with_reducible first | exact HB.out | apply below_alloc | apply pw_below_drewN | apply below_drew1) | exact HB.out)⟩⟩
                      · rw [if_neg c30] at H
                        exact absurd H (by simp)
                    · rw [if_neg c29] at H
                      exact absurd H (by simp)
                  · rw [if_neg c28] at H
                    exact absurd H (by simp)
                · rw [if_neg c27] at H
                  exact absurd H (by simp)
              · rw [if_neg c26] at H
                have c26b0 : decide (0 < x4_1) = false := decide_eq_false c26
                clear c26
                by_cases c31 : x3_1.size + ((rd_T80 l0 x4_1).f0).size ≤ 9223372036854775807
                · rw [if_pos c31] at H
                  have c31b0 := eq_true c31
                  have c31b1 : decide (x3_1.size + ((rd_T80 l0 x4_1).f0).size ≤ 9223372036854775807) = true := decide_eq_true c31
                  try have c31b2 : (9223372036854775807 < x3_1.size + ((rd_T80 l0 x4_1).f0).size) = False := eq_false (Nat.not_lt.2 c31)
                  by_cases c32 : (x3_1 ++ ((rd_T80 l0 x4_1).f0)).size + 1 ≤ 9223372036854775807
                  · rw [if_pos c32] at H
                    have c32b0 := eq_true c32
                    have c32b1 : decide ((x3_1 ++ ((rd_T80 l0 x4_1).f0)).size + 1 ≤ 9223372036854775807) = true := decide_eq_true c32
                    try have c32b2 : (9223372036854775807 < (x3_1 ++ ((rd_T80 l0 x4_1).f0)).size + 1) = False := eq_false (Nat.not_lt.2 c32)
                    try have c32b3 : (9223372036854775807 < x3_1.size + (rd_T80 l0 x4_1).f0.size + 1) = False := eq_false (by have h_ := c32; simp only [ByteArray.size_append] at h_; omega)
                    by_cases c33 : ((x3_1 ++ ((rd_T80 l0 x4_1).f0)) ++ (⟨#[58]⟩ : ByteArray)).size + 1 ≤ 9223372036854775807
                    · rw [if_pos c33] at H
                      have c33b0 := eq_true c33
                      have c33b1 : decide (((x3_1 ++ ((rd_T80 l0 x4_1).f0)) ++ (⟨#[58]⟩ : ByteArray)).size + 1 ≤ 9223372036854775807) = true := decide_eq_true c33
                      try have c33b2 : (9223372036854775807 < ((x3_1 ++ ((rd_T80 l0 x4_1).f0)) ++ (⟨#[58]⟩ : ByteArray)).size + 1) = False := eq_false (Nat.not_lt.2 c33)
                      try have c33b3 : (9223372036854775807 < x3_1.size + (rd_T80 l0 x4_1).f0.size + 1 + 1) = False := eq_false (by have h_ := c33; simp only [ByteArray.size_append, (show (⟨#[58]⟩ : ByteArray).size = 1 from rfl)] at h_; omega)
                      have H' := Aside0.mk H
                      clear H
                      have p195 : 0 ≤ (x4_1 : Int) := of_decide_eq_true (by first | (with_reducible assumption) | assumption)
                      have q195 : x4_1 < (l0.length : Int) := of_decide_eq_true (by first | (with_reducible assumption) | assumption)
                      obtain ⟨ad195, e195, hx195_0, hx195_1, hx195_2⟩ := at_T80 HR0.out x4_1 p195 q195
                      cases e195
                      replace hx195_0 := (HB.out.cell (World.block_lt_of_cell? w _ hx195_0)).trans hx195_0
                      replace hx195_1 := (HB.out.cell (World.block_lt_of_cell? w _ hx195_1)).trans hx195_1
                      replace hx195_2 := (HB.out.cell (World.block_lt_of_cell? w _ hx195_2)).trans hx195_2
                      replace p195 := eq_true p195
                      replace q195 := eq_true q195
                      have p204 : 0 ≤ (x4_1 : Int) := of_decide_eq_true (by first | (with_reducible assumption) | assumption)
                      have q204 : x4_1 < (l0.length : Int) := of_decide_eq_true (by first | (with_reducible assumption) | assumption)
                      obtain ⟨ad204, e204, hx204_0, hx204_1, hx204_2⟩ := at_T80 HR0.out x4_1 p204 q204
                      obtain rfl : ad195 = ad204 := (by injection e204)
                      replace hx204_0 := (HB.out.cell (World.block_lt_of_cell? w _ hx204_0)).trans hx204_0
                      replace hx204_1 := (HB.out.cell (World.block_lt_of_cell? w _ hx204_1)).trans hx204_1
                      replace hx204_2 := (HB.out.cell (World.block_lt_of_cell? w _ hx204_2)).trans hx204_2
                      replace p204 := eq_true p204
                      replace q204 := eq_true q204
                      go_wp2
                      go_roundg k1
                      case measure => have := HK1.out; omega
                      case rel => exact ⟨(((x3_1 ++ ((rd_T80 l0 x4_1).f0)) ++ (⟨#[58]⟩ : ByteArray)) ++ (⟨#[115]⟩ : ByteArray)), (wrap64 (x4_1 + 1)), (by first | rfl | (simp; done) | (simp [*]; done)), (by first | rfl | (simp; done) | (simp [*]; done)), H', ⟨by have := HK1.out; omega⟩, ⟨by repeat (first | (with_reducible first | exact HB.out | apply below_alloc | apply pw_below_drewN | apply below_drew1) | exact HB.out)⟩⟩
                    · rw [if_neg c33] at H
                      exact absurd H (by simp)
                  · rw [if_neg c32] at H
                    exact absurd H (by simp)
                · rw [if_neg c31] at H
                  exact absurd H (by simp)
            · rw [if_neg c25] at H
              have c25b0 : (((rd_T80 l0 x4_1).f2) == 1) = false := beq_eq_false_iff_ne.mpr c25
              have c25b1 : (((rd_T80 l0 x4_1).f2) != 1) = true := bne_iff_ne.mpr c25
              by_cases c34 : ((rd_T80 l0 x4_1).f2) = 2
              · rw [if_pos c34] at H
                have c34b0 : (((rd_T80 l0 x4_1).f2) == 2) = true := beq_iff_eq.mpr c34
                have c34b1 : (((rd_T80 l0 x4_1).f2) != 2) = false := bne_eq_false_iff_eq.mpr c34
                clear c34
                by_cases c35 : x4_1 > 0
                · rw [if_pos c35] at H
                  have c35b0 : decide (0 < x4_1) = true := decide_eq_true c35
                  clear c35
                  by_cases c36 : x3_1.size + 1 ≤ 9223372036854775807
                  · rw [if_pos c36] at H
                    have c36b0 := eq_true c36
                    have c36b1 : decide (x3_1.size + 1 ≤ 9223372036854775807) = true := decide_eq_true c36
                    try have c36b2 : (9223372036854775807 < x3_1.size + 1) = False := eq_false (Nat.not_lt.2 c36)
                    by_cases c37 : (x3_1 ++ (⟨#[32]⟩ : ByteArray)).size + ((rd_T80 l0 x4_1).f0).size ≤ 9223372036854775807
                    · rw [if_pos c37] at H
                      have c37b0 := eq_true c37
                      have c37b1 : decide ((x3_1 ++ (⟨#[32]⟩ : ByteArray)).size + ((rd_T80 l0 x4_1).f0).size ≤ 9223372036854775807) = true := decide_eq_true c37
                      try have c37b2 : (9223372036854775807 < (x3_1 ++ (⟨#[32]⟩ : ByteArray)).size + ((rd_T80 l0 x4_1).f0).size) = False := eq_false (Nat.not_lt.2 c37)
                      try have c37b3 : (9223372036854775807 < x3_1.size + 1 + (rd_T80 l0 x4_1).f0.size) = False := eq_false (by have h_ := c37; simp only [ByteArray.size_append, (show (⟨#[32]⟩ : ByteArray).size = 1 from rfl)] at h_; omega)
                      by_cases c38 : ((x3_1 ++ (⟨#[32]⟩ : ByteArray)) ++ ((rd_T80 l0 x4_1).f0)).size + 1 ≤ 9223372036854775807
                      · rw [if_pos c38] at H
                        have c38b0 := eq_true c38
                        have c38b1 : decide (((x3_1 ++ (⟨#[32]⟩ : ByteArray)) ++ ((rd_T80 l0 x4_1).f0)).size + 1 ≤ 9223372036854775807) = true := decide_eq_true c38
                        try have c38b2 : (9223372036854775807 < ((x3_1 ++ (⟨#[32]⟩ : ByteArray)) ++ ((rd_T80 l0 x4_1).f0)).size + 1) = False := eq_false (Nat.not_lt.2 c38)
                        try have c38b3 : (9223372036854775807 < x3_1.size + 1 + (rd_T80 l0 x4_1).f0.size + 1) = False := eq_false (by have h_ := c38; simp only [ByteArray.size_append, (show (⟨#[32]⟩ : ByteArray).size = 1 from rfl)] at h_; omega)
                        by_cases c39 : (((x3_1 ++ (⟨#[32]⟩ : ByteArray)) ++ ((rd_T80 l0 x4_1).f0)) ++ (⟨#[58]⟩ : ByteArray)).size + 1 ≤ 9223372036854775807
                        · rw [if_pos c39] at H
                          have c39b0 := eq_true c39
                          have c39b1 : decide ((((x3_1 ++ (⟨#[32]⟩ : ByteArray)) ++ ((rd_T80 l0 x4_1).f0)) ++ (⟨#[58]⟩ : ByteArray)).size + 1 ≤ 9223372036854775807) = true := decide_eq_true c39
                          try have c39b2 : (9223372036854775807 < (((x3_1 ++ (⟨#[32]⟩ : ByteArray)) ++ ((rd_T80 l0 x4_1).f0)) ++ (⟨#[58]⟩ : ByteArray)).size + 1) = False := eq_false (Nat.not_lt.2 c39)
                          try have c39b3 : (9223372036854775807 < x3_1.size + 1 + (rd_T80 l0 x4_1).f0.size + 1 + 1) = False := eq_false (by have h_ := c39; simp only [ByteArray.size_append, (show (⟨#[32]⟩ : ByteArray).size = 1 from rfl), (show (⟨#[58]⟩ : ByteArray).size = 1 from rfl)] at h_; omega)
                          have H' := Aside0.mk H
                          clear H
                          have p195 : 0 ≤ (x4_1 : Int) := of_decide_eq_true (by first | (with_reducible assumption) | assumption)
                          have q195 : x4_1 < (l0.length : Int) := of_decide_eq_true (by first | (with_reducible assumption) | assumption)
                          obtain ⟨ad195, e195, hx195_0, hx195_1, hx195_2⟩ := at_T80 HR0.out x4_1 p195 q195
                          cases e195
                          replace hx195_0 := (HB.out.cell (World.block_lt_of_cell? w _ hx195_0)).trans hx195_0
                          replace hx195_1 := (HB.out.cell (World.block_lt_of_cell? w _ hx195_1)).trans hx195_1
                          replace hx195_2 := (HB.out.cell (World.block_lt_of_cell? w _ hx195_2)).trans hx195_2
                          replace p195 := eq_true p195
                          replace q195 := eq_true q195
                          have p205 : 0 ≤ (x4_1 : Int) := of_decide_eq_true (by first | (with_reducible assumption) | assumption)
                          have q205 : x4_1 < (l0.length : Int) := of_decide_eq_true (by first | (with_reducible assumption) | assumption)
                          obtain ⟨ad205, e205, hx205_0, hx205_1, hx205_2⟩ := at_T80 HR0.out x4_1 p205 q205
                          obtain rfl : ad195 = ad205 := (by injection e205)
                          replace hx205_0 := (HB.out.cell (World.block_lt_of_cell? w _ hx205_0)).trans hx205_0
                          replace hx205_1 := (HB.out.cell (World.block_lt_of_cell? w _ hx205_1)).trans hx205_1
                          replace hx205_2 := (HB.out.cell (World.block_lt_of_cell? w _ hx205_2)).trans hx205_2
                          replace p205 := eq_true p205
                          replace q205 := eq_true q205
                          go_wp2
                          go_roundg k1
                          case measure => have := HK1.out; omega
                          case rel => exact ⟨((((x3_1 ++ (⟨#[32]⟩ : ByteArray)) ++ ((rd_T80 l0 x4_1).f0)) ++ (⟨#[58]⟩ : ByteArray)) ++ (⟨#[120]⟩ : ByteArray)), (wrap64 (x4_1 + 1)), (by first | rfl | (simp; done) | (simp [*]; done)), (by first | rfl | (simp; done) | (simp [*]; done)), H', ⟨by have := HK1.out; omega⟩, ⟨by repeat (first | (with_reducible first | exact HB.out | apply below_alloc | apply pw_below_drewN | apply below_drew1) | exact HB.out)⟩⟩
                        · rw [if_neg c39] at H
                          exact absurd H (by simp)
                      · rw [if_neg c38] at H
                        exact absurd H (by simp)
                    · rw [if_neg c37] at H
                      exact absurd H (by simp)
                  · rw [if_neg c36] at H
                    exact absurd H (by simp)
                · rw [if_neg c35] at H
                  have c35b0 : decide (0 < x4_1) = false := decide_eq_false c35
                  clear c35
                  by_cases c40 : x3_1.size + ((rd_T80 l0 x4_1).f0).size ≤ 9223372036854775807
                  · rw [if_pos c40] at H
                    have c40b0 := eq_true c40
                    have c40b1 : decide (x3_1.size + ((rd_T80 l0 x4_1).f0).size ≤ 9223372036854775807) = true := decide_eq_true c40
                    try have c40b2 : (9223372036854775807 < x3_1.size + ((rd_T80 l0 x4_1).f0).size) = False := eq_false (Nat.not_lt.2 c40)
                    by_cases c41 : (x3_1 ++ ((rd_T80 l0 x4_1).f0)).size + 1 ≤ 9223372036854775807
                    · rw [if_pos c41] at H
                      have c41b0 := eq_true c41
                      have c41b1 : decide ((x3_1 ++ ((rd_T80 l0 x4_1).f0)).size + 1 ≤ 9223372036854775807) = true := decide_eq_true c41
                      try have c41b2 : (9223372036854775807 < (x3_1 ++ ((rd_T80 l0 x4_1).f0)).size + 1) = False := eq_false (Nat.not_lt.2 c41)
                      try have c41b3 : (9223372036854775807 < x3_1.size + (rd_T80 l0 x4_1).f0.size + 1) = False := eq_false (by have h_ := c41; simp only [ByteArray.size_append] at h_; omega)
                      by_cases c42 : ((x3_1 ++ ((rd_T80 l0 x4_1).f0)) ++ (⟨#[58]⟩ : ByteArray)).size + 1 ≤ 9223372036854775807
                      · rw [if_pos c42] at H
                        have c42b0 := eq_true c42
                        have c42b1 : decide (((x3_1 ++ ((rd_T80 l0 x4_1).f0)) ++ (⟨#[58]⟩ : ByteArray)).size + 1 ≤ 9223372036854775807) = true := decide_eq_true c42
                        try have c42b2 : (9223372036854775807 < ((x3_1 ++ ((rd_T80 l0 x4_1).f0)) ++ (⟨#[58]⟩ : ByteArray)).size + 1) = False := eq_false (Nat.not_lt.2 c42)
                        try have c42b3 : (9223372036854775807 < x3_1.size + (rd_T80 l0 x4_1).f0.size + 1 + 1) = False := eq_false (by have h_ := c42; simp only [ByteArray.size_append, (show (⟨#[58]⟩ : ByteArray).size = 1 from rfl)] at h_; omega)
                        have H' := Aside0.mk H
                        clear H
                        have p195 : 0 ≤ (x4_1 : Int) := of_decide_eq_true (by first | (with_reducible assumption) | assumption)
                        have q195 : x4_1 < (l0.length : Int) := of_decide_eq_true (by first | (with_reducible assumption) | assumption)
                        obtain ⟨ad195, e195, hx195_0, hx195_1, hx195_2⟩ := at_T80 HR0.out x4_1 p195 q195
                        cases e195
                        replace hx195_0 := (HB.out.cell (World.block_lt_of_cell? w _ hx195_0)).trans hx195_0
                        replace hx195_1 := (HB.out.cell (World.block_lt_of_cell? w _ hx195_1)).trans hx195_1
                        replace hx195_2 := (HB.out.cell (World.block_lt_of_cell? w _ hx195_2)).trans hx195_2
                        replace p195 := eq_true p195
                        replace q195 := eq_true q195
                        have p206 : 0 ≤ (x4_1 : Int) := of_decide_eq_true (by first | (with_reducible assumption) | assumption)
                        have q206 : x4_1 < (l0.length : Int) := of_decide_eq_true (by first | (with_reducible assumption) | assumption)
                        obtain ⟨ad206, e206, hx206_0, hx206_1, hx206_2⟩ := at_T80 HR0.out x4_1 p206 q206
                        obtain rfl : ad195 = ad206 := (by injection e206)
                        replace hx206_0 := (HB.out.cell (World.block_lt_of_cell? w _ hx206_0)).trans hx206_0
                        replace hx206_1 := (HB.out.cell (World.block_lt_of_cell? w _ hx206_1)).trans hx206_1
                        replace hx206_2 := (HB.out.cell (World.block_lt_of_cell? w _ hx206_2)).trans hx206_2
                        replace p206 := eq_true p206
                        replace q206 := eq_true q206
                        go_wp2
                        go_roundg k1
                        case measure => have := HK1.out; omega
                        case rel => exact ⟨(((x3_1 ++ ((rd_T80 l0 x4_1).f0)) ++ (⟨#[58]⟩ : ByteArray)) ++ (⟨#[120]⟩ : ByteArray)), (wrap64 (x4_1 + 1)), (by first | rfl | (simp; done) | (simp [*]; done)), (by first | rfl | (simp; done) | (simp [*]; done)), H', ⟨by have := HK1.out; omega⟩, ⟨by repeat (first | (with_reducible first | exact HB.out | apply below_alloc | apply pw_below_drewN | apply below_drew1) | exact HB.out)⟩⟩
                      · rw [if_neg c42] at H
                        exact absurd H (by simp)
                    · rw [if_neg c41] at H
                      exact absurd H (by simp)
                  · rw [if_neg c40] at H
                    exact absurd H (by simp)
              · rw [if_neg c34] at H
                have c34b0 : (((rd_T80 l0 x4_1).f2) == 2) = false := beq_eq_false_iff_ne.mpr c34
                have c34b1 : (((rd_T80 l0 x4_1).f2) != 2) = true := bne_iff_ne.mpr c34
                by_cases c43 : x4_1 > 0
                · rw [if_pos c43] at H
                  have c43b0 : decide (0 < x4_1) = true := decide_eq_true c43
                  clear c43
                  by_cases c44 : x3_1.size + 1 ≤ 9223372036854775807
                  · rw [if_pos c44] at H
                    have c44b0 := eq_true c44
                    have c44b1 : decide (x3_1.size + 1 ≤ 9223372036854775807) = true := decide_eq_true c44
                    try have c44b2 : (9223372036854775807 < x3_1.size + 1) = False := eq_false (Nat.not_lt.2 c44)
                    by_cases c45 : (x3_1 ++ (⟨#[32]⟩ : ByteArray)).size + ((rd_T80 l0 x4_1).f0).size ≤ 9223372036854775807
                    · rw [if_pos c45] at H
                      have c45b0 := eq_true c45
                      have c45b1 : decide ((x3_1 ++ (⟨#[32]⟩ : ByteArray)).size + ((rd_T80 l0 x4_1).f0).size ≤ 9223372036854775807) = true := decide_eq_true c45
                      try have c45b2 : (9223372036854775807 < (x3_1 ++ (⟨#[32]⟩ : ByteArray)).size + ((rd_T80 l0 x4_1).f0).size) = False := eq_false (Nat.not_lt.2 c45)
                      try have c45b3 : (9223372036854775807 < x3_1.size + 1 + (rd_T80 l0 x4_1).f0.size) = False := eq_false (by have h_ := c45; simp only [ByteArray.size_append, (show (⟨#[32]⟩ : ByteArray).size = 1 from rfl)] at h_; omega)
                      by_cases c46 : ((x3_1 ++ (⟨#[32]⟩ : ByteArray)) ++ ((rd_T80 l0 x4_1).f0)).size + 1 ≤ 9223372036854775807
                      · rw [if_pos c46] at H
                        have c46b0 := eq_true c46
                        have c46b1 : decide (((x3_1 ++ (⟨#[32]⟩ : ByteArray)) ++ ((rd_T80 l0 x4_1).f0)).size + 1 ≤ 9223372036854775807) = true := decide_eq_true c46
                        try have c46b2 : (9223372036854775807 < ((x3_1 ++ (⟨#[32]⟩ : ByteArray)) ++ ((rd_T80 l0 x4_1).f0)).size + 1) = False := eq_false (Nat.not_lt.2 c46)
                        try have c46b3 : (9223372036854775807 < x3_1.size + 1 + (rd_T80 l0 x4_1).f0.size + 1) = False := eq_false (by have h_ := c46; simp only [ByteArray.size_append, (show (⟨#[32]⟩ : ByteArray).size = 1 from rfl)] at h_; omega)
                        by_cases c47 : (((x3_1 ++ (⟨#[32]⟩ : ByteArray)) ++ ((rd_T80 l0 x4_1).f0)) ++ (⟨#[58]⟩ : ByteArray)).size + 1 ≤ 9223372036854775807
                        · rw [if_pos c47] at H
                          have c47b0 := eq_true c47
                          have c47b1 : decide ((((x3_1 ++ (⟨#[32]⟩ : ByteArray)) ++ ((rd_T80 l0 x4_1).f0)) ++ (⟨#[58]⟩ : ByteArray)).size + 1 ≤ 9223372036854775807) = true := decide_eq_true c47
                          try have c47b2 : (9223372036854775807 < (((x3_1 ++ (⟨#[32]⟩ : ByteArray)) ++ ((rd_T80 l0 x4_1).f0)) ++ (⟨#[58]⟩ : ByteArray)).size + 1) = False := eq_false (Nat.not_lt.2 c47)
                          try have c47b3 : (9223372036854775807 < x3_1.size + 1 + (rd_T80 l0 x4_1).f0.size + 1 + 1) = False := eq_false (by have h_ := c47; simp only [ByteArray.size_append, (show (⟨#[32]⟩ : ByteArray).size = 1 from rfl), (show (⟨#[58]⟩ : ByteArray).size = 1 from rfl)] at h_; omega)
                          have H' := Aside0.mk H
                          clear H
                          have p195 : 0 ≤ (x4_1 : Int) := of_decide_eq_true (by first | (with_reducible assumption) | assumption)
                          have q195 : x4_1 < (l0.length : Int) := of_decide_eq_true (by first | (with_reducible assumption) | assumption)
                          obtain ⟨ad195, e195, hx195_0, hx195_1, hx195_2⟩ := at_T80 HR0.out x4_1 p195 q195
                          cases e195
                          replace hx195_0 := (HB.out.cell (World.block_lt_of_cell? w _ hx195_0)).trans hx195_0
                          replace hx195_1 := (HB.out.cell (World.block_lt_of_cell? w _ hx195_1)).trans hx195_1
                          replace hx195_2 := (HB.out.cell (World.block_lt_of_cell? w _ hx195_2)).trans hx195_2
                          replace p195 := eq_true p195
                          replace q195 := eq_true q195
                          have p207 : 0 ≤ (x4_1 : Int) := of_decide_eq_true (by first | (with_reducible assumption) | assumption)
                          have q207 : x4_1 < (l0.length : Int) := of_decide_eq_true (by first | (with_reducible assumption) | assumption)
                          obtain ⟨ad207, e207, hx207_0, hx207_1, hx207_2⟩ := at_T80 HR0.out x4_1 p207 q207
                          obtain rfl : ad195 = ad207 := (by injection e207)
                          replace hx207_0 := (HB.out.cell (World.block_lt_of_cell? w _ hx207_0)).trans hx207_0
                          replace hx207_1 := (HB.out.cell (World.block_lt_of_cell? w _ hx207_1)).trans hx207_1
                          replace hx207_2 := (HB.out.cell (World.block_lt_of_cell? w _ hx207_2)).trans hx207_2
                          replace p207 := eq_true p207
                          replace q207 := eq_true q207
                          go_wp2
                          go_roundg k1
                          case measure => have := HK1.out; omega
                          case rel => exact ⟨((((x3_1 ++ (⟨#[32]⟩ : ByteArray)) ++ ((rd_T80 l0 x4_1).f0)) ++ (⟨#[58]⟩ : ByteArray)) ++ (⟨#[63]⟩ : ByteArray)), (wrap64 (x4_1 + 1)), (by first | rfl | (simp; done) | (simp [*]; done)), (by first | rfl | (simp; done) | (simp [*]; done)), H', ⟨by have := HK1.out; omega⟩, ⟨by repeat (first | (with_reducible first | exact HB.out | apply below_alloc | apply pw_below_drewN | apply below_drew1) | exact HB.out)⟩⟩
                        · rw [if_neg c47] at H
                          exact absurd H (by simp)
                      · rw [if_neg c46] at H
                        exact absurd H (by simp)
                    · rw [if_neg c45] at H
                      exact absurd H (by simp)
                  · rw [if_neg c44] at H
                    exact absurd H (by simp)
                · rw [if_neg c43] at H
                  have c43b0 : decide (0 < x4_1) = false := decide_eq_false c43
                  clear c43
                  by_cases c48 : x3_1.size + ((rd_T80 l0 x4_1).f0).size ≤ 9223372036854775807
                  · rw [if_pos c48] at H
                    have c48b0 := eq_true c48
                    have c48b1 : decide (x3_1.size + ((rd_T80 l0 x4_1).f0).size ≤ 9223372036854775807) = true := decide_eq_true c48
                    try have c48b2 : (9223372036854775807 < x3_1.size + ((rd_T80 l0 x4_1).f0).size) = False := eq_false (Nat.not_lt.2 c48)
                    by_cases c49 : (x3_1 ++ ((rd_T80 l0 x4_1).f0)).size + 1 ≤ 9223372036854775807
                    · rw [if_pos c49] at H
                      have c49b0 := eq_true c49
                      have c49b1 : decide ((x3_1 ++ ((rd_T80 l0 x4_1).f0)).size + 1 ≤ 9223372036854775807) = true := decide_eq_true c49
                      try have c49b2 : (9223372036854775807 < (x3_1 ++ ((rd_T80 l0 x4_1).f0)).size + 1) = False := eq_false (Nat.not_lt.2 c49)
                      try have c49b3 : (9223372036854775807 < x3_1.size + (rd_T80 l0 x4_1).f0.size + 1) = False := eq_false (by have h_ := c49; simp only [ByteArray.size_append] at h_; omega)
                      by_cases c50 : ((x3_1 ++ ((rd_T80 l0 x4_1).f0)) ++ (⟨#[58]⟩ : ByteArray)).size + 1 ≤ 9223372036854775807
                      · rw [if_pos c50] at H
                        have c50b0 := eq_true c50
                        have c50b1 : decide (((x3_1 ++ ((rd_T80 l0 x4_1).f0)) ++ (⟨#[58]⟩ : ByteArray)).size + 1 ≤ 9223372036854775807) = true := decide_eq_true c50
                        try have c50b2 : (9223372036854775807 < ((x3_1 ++ ((rd_T80 l0 x4_1).f0)) ++ (⟨#[58]⟩ : ByteArray)).size + 1) = False := eq_false (Nat.not_lt.2 c50)
                        try have c50b3 : (9223372036854775807 < x3_1.size + (rd_T80 l0 x4_1).f0.size + 1 + 1) = False := eq_false (by have h_ := c50; simp only [ByteArray.size_append, (show (⟨#[58]⟩ : ByteArray).size = 1 from rfl)] at h_; omega)
                        have H' := Aside0.mk H
                        clear H
                        have p195 : 0 ≤ (x4_1 : Int) := of_decide_eq_true (by first | (with_reducible assumption) | assumption)
                        have q195 : x4_1 < (l0.length : Int) := of_decide_eq_true (by first | (with_reducible assumption) | assumption)
                        obtain ⟨ad195, e195, hx195_0, hx195_1, hx195_2⟩ := at_T80 HR0.out x4_1 p195 q195
                        cases e195
                        replace hx195_0 := (HB.out.cell (World.block_lt_of_cell? w _ hx195_0)).trans hx195_0
                        replace hx195_1 := (HB.out.cell (World.block_lt_of_cell? w _ hx195_1)).trans hx195_1
                        replace hx195_2 := (HB.out.cell (World.block_lt_of_cell? w _ hx195_2)).trans hx195_2
                        replace p195 := eq_true p195
                        replace q195 := eq_true q195
                        have p208 : 0 ≤ (x4_1 : Int) := of_decide_eq_true (by first | (with_reducible assumption) | assumption)
                        have q208 : x4_1 < (l0.length : Int) := of_decide_eq_true (by first | (with_reducible assumption) | assumption)
                        obtain ⟨ad208, e208, hx208_0, hx208_1, hx208_2⟩ := at_T80 HR0.out x4_1 p208 q208
                        obtain rfl : ad195 = ad208 := (by injection e208)
                        replace hx208_0 := (HB.out.cell (World.block_lt_of_cell? w _ hx208_0)).trans hx208_0
                        replace hx208_1 := (HB.out.cell (World.block_lt_of_cell? w _ hx208_1)).trans hx208_1
                        replace hx208_2 := (HB.out.cell (World.block_lt_of_cell? w _ hx208_2)).trans hx208_2
                        replace p208 := eq_true p208
                        replace q208 := eq_true q208
                        go_wp2
                        go_roundg k1
                        case measure => have := HK1.out; omega
                        case rel => exact ⟨(((x3_1 ++ ((rd_T80 l0 x4_1).f0)) ++ (⟨#[58]⟩ : ByteArray)) ++ (⟨#[63]⟩ : ByteArray)), (wrap64 (x4_1 + 1)), (by first | rfl | (simp; done) | (simp [*]; done)), (by first | rfl | (simp; done) | (simp [*]; done)), H', ⟨by have := HK1.out; omega⟩, ⟨by repeat (first | (with_reducible first | exact HB.out | apply below_alloc | apply pw_below_drewN | apply below_drew1) | exact HB.out)⟩⟩
                      · rw [if_neg c50] at H
                        exact absurd H (by simp)
                    · rw [if_neg c49] at H
                      exact absurd H (by simp)
                  · rw [if_neg c48] at H
                    exact absurd H (by simp)
        · rw [if_neg c3] at H
          exact absurd H (by simp)
      · rw [if_neg c2] at H
        have c2b0 : decide (x4_1 < (l0.length : Int)) = false := decide_eq_false c2
        clear c2
        obtain rfl := Option.some.inj H
        go_wp2
        go_ret
        exact ⟨by first | rfl | (simp [errW_none, errW_some] <;> rfl) | (simp [*, errW_none, errW_some] <;> rfl), by repeat (first | (with_reducible first | exact HB.out | apply below_alloc | apply pw_below_drewN | apply below_drew1) | exact HB.out)⟩

/-! ### dayshiftlaw14_same: function 25 -/
def dayshiftlaw14_same.l0 : Nat → List (S52) → List (S80) → Int → Option (Bool)
  | 0, _, _, _ => none
  | k + 1, x0, x1, x5 => if x5 < (x0.length : Int) then (if 0 ≤ x5 then (if x5 < (x1.length : Int) then (if ((rd_T52 x0 x5).f0).toList = ((rd_T80 x1 x5).f0).toList then (if ((rd_T52 x0 x5).f1) = ((rd_T80 x1 x5).f1) then (if ((rd_T52 x0 x5).f2) = ((rd_T80 x1 x5).f2) then (dayshiftlaw14_same.l0 k x0 x1 (wrap64 (x5 + 1))) else (some false)) else (some false)) else (some false)) else (none)) else (none)) else (some true)
def dayshiftlaw14_same.f (k : Nat) (l0 : List (S52)) (l1 : List (S80)) : Option (Bool) := if (l0.length : Int) = (l1.length : Int) then (dayshiftlaw14_same.l0 k l0 l1 0) else (some false)
theorem dayshiftlaw14_same.mono_l : ∀ k, (∀ y0 y1 y2, LeO (dayshiftlaw14_same.l0 k y0 y1 y2) (dayshiftlaw14_same.l0 (k + 1) y0 y1 y2))
  | 0 => fun _ _ _ r h => by simp [dayshiftlaw14_same.l0] at h
  | k + 1 => by
    have ih0 := dayshiftlaw14_same.mono_l k
    · intro y0 y1 y2
      unfold dayshiftlaw14_same.l0
      repeat' first
      | (with_reducible exact ih0 _ _ _)
      | (with_reducible exact LeO.refl _)
      | (with_reducible exact LeO.none _)
      | (with_reducible refine LeO.ite ?_ ?_)
      | (with_reducible refine LeO.bind ?_ (fun _ => ?_))
      | exact ih0 _ _ _
      | exact LeO.none _
      | refine LeO.ite ?_ ?_
      | refine LeO.bind ?_ (fun _ => ?_)
theorem dayshiftlaw14_same.mono : ∀ a0 a1 k, LeO (dayshiftlaw14_same.f k a0 a1) (dayshiftlaw14_same.f (k + 1) a0 a1) := by
  intro a0 a1 k
  have ih0 := dayshiftlaw14_same.mono_l k
  unfold dayshiftlaw14_same.f
  repeat' first
      | (with_reducible exact ih0 _ _ _)
      | (with_reducible exact LeO.refl _)
      | (with_reducible exact LeO.none _)
      | (with_reducible refine LeO.ite ?_ ?_)
      | (with_reducible refine LeO.bind ?_ (fun _ => ?_))
      | exact ih0 _ _ _
      | exact LeO.none _
      | refine LeO.ite ?_ ?_
      | refine LeO.bind ?_ (fun _ => ?_)
set_option maxHeartbeats 8000000 in
set_option maxRecDepth 100000 in
theorem dayshiftlaw14_same.calls (k : Nat) (A0 : Option Addr) (c0 : Nat) (l0 : List (S52)) (A1 : Option Addr) (c1 : Nat) (l1 : List (S80)) (r : Bool) (w : World) (hr0 : Kd.C k52 w A0 l0.length l0) (hc0 : l0.length ≤ c0) (hr1 : Kd.C k80 w A1 l1.length l1) (hc1 : l1.length ≤ c1) (hr : r = true) (h : dayshiftlaw14_same.f k l0 l1 = some r) :
    Calls Try.prog 25 #[.slice A0 l0.length c0, .slice A1 l1.length c1] w fun e w' => e = .returned (.bool r) ∧ Drawn0 w w' := by
  have HR0 := Aside0.mk hr0
  have HC0 := Aside0.mk hc0
  clear hr0 hc0
  have HR1 := Aside0.mk hr1
  have HC1 := Aside0.mk hc1
  clear hr1 hc1
  have Hr := Aside0.mk hr
  clear hr
  have H : (if (l0.length : Int) = (l1.length : Int) then (dayshiftlaw14_same.l0 k l0 l1 0) else (some false)) = some r := h
  clear h
  by_cases c3 : (l0.length : Int) = (l1.length : Int)
  · rw [if_pos c3] at H
    have c3b0 : ((l0.length : Int) == (l1.length : Int)) = true := beq_iff_eq.mpr c3
    have c3b1 : ((l0.length : Int) != (l1.length : Int)) = false := bne_eq_false_iff_eq.mpr c3
    have c3b2 : (l0.length == l1.length) = true := by first | simpa using c3 | (simp at c3 ⊢; omega)
    clear c3
    have H' := Aside0.mk H
    clear H
    go_enter Try.func25, Try.ntmps25
    go_wp2
    repeat (go_quiet (fail); try go_wp2)
    go_loopg [5] k (fun kq v5 w' => ∃ (x5_1 : Int), v5 = .int .i64 x5_1 ∧ Aside0 (dayshiftlaw14_same.l0 kq l0 l1 x5_1 = some r) ∧ Aside0 (kq ≤ k) ∧ Drawn0 w w')
    case atStart => exact ⟨(0), (by first | rfl | (simp; done) | (simp [*]; done)), H', ⟨Nat.le_refl _⟩, by repeat (first | exact Drawn0.refl _ | apply Drawn0.step)⟩
    case round =>
      clear H'
      try clear c1
      try clear c2
      try clear p2
      try clear c3
      try clear c3b0
      try clear c3b1
      try clear c3b2
      obtain ⟨x5_1, rfl, HA, HK1, ⟨m1, rfl⟩⟩ := hrel
      cases gk with
      | zero => exact absurd HA.out (by simp [dayshiftlaw14_same.l0])
      | succ k1 =>
        have H := HA.out
        clear HA
        simp only [dayshiftlaw14_same.l0] at H
        by_cases c4 : x5_1 < (l0.length : Int)
        · rw [if_pos c4] at H
          have c4b0 : decide (x5_1 < (l0.length : Int)) = true := decide_eq_true c4
          clear c4
          by_cases c5 : 0 ≤ x5_1
          · rw [if_pos c5] at H
            have c5b0 : decide (0 ≤ x5_1) = true := decide_eq_true c5
            clear c5
            by_cases c6 : x5_1 < (l1.length : Int)
            · rw [if_pos c6] at H
              have c6b0 : decide (x5_1 < (l1.length : Int)) = true := decide_eq_true c6
              clear c6
              by_cases c7 : ((rd_T52 l0 x5_1).f0).toList = ((rd_T80 l1 x5_1).f0).toList
              · rw [if_pos c7] at H
                have c7b0 : (((rd_T52 l0 x5_1).f0).toList == ((rd_T80 l1 x5_1).f0).toList) = true := beq_iff_eq.mpr c7
                have c7b1 : (((rd_T52 l0 x5_1).f0).toList != ((rd_T80 l1 x5_1).f0).toList) = false := bne_eq_false_iff_eq.mpr c7
                clear c7
                by_cases c8 : ((rd_T52 l0 x5_1).f1) = ((rd_T80 l1 x5_1).f1)
                · rw [if_pos c8] at H
                  have c8b0 : (((rd_T52 l0 x5_1).f1) == ((rd_T80 l1 x5_1).f1)) = true := beq_iff_eq.mpr c8
                  have c8b1 : (((rd_T52 l0 x5_1).f1) != ((rd_T80 l1 x5_1).f1)) = false := bne_eq_false_iff_eq.mpr c8
                  clear c8
                  by_cases c9 : ((rd_T52 l0 x5_1).f2) = ((rd_T80 l1 x5_1).f2)
                  · rw [if_pos c9] at H
                    have c9b0 : (((rd_T52 l0 x5_1).f2) == ((rd_T80 l1 x5_1).f2)) = true := beq_iff_eq.mpr c9
                    have c9b1 : (((rd_T52 l0 x5_1).f2) != ((rd_T80 l1 x5_1).f2)) = false := bne_eq_false_iff_eq.mpr c9
                    clear c9
                    have H' := Aside0.mk H
                    clear H
                    have p209 : 0 ≤ (x5_1 : Int) := of_decide_eq_true (by first | (with_reducible assumption) | assumption)
                    have q209 : x5_1 < (l0.length : Int) := of_decide_eq_true (by first | (with_reducible assumption) | assumption)
                    obtain ⟨ad209, e209, hx209_0, hx209_1, hx209_2⟩ := at_T52 HR0.out x5_1 p209 q209
                    cases e209
                    replace p209 := eq_true p209
                    replace q209 := eq_true q209
                    have p210 : 0 ≤ (x5_1 : Int) := of_decide_eq_true (by first | (with_reducible assumption) | assumption)
                    have q210 : x5_1 < (l1.length : Int) := of_decide_eq_true (by first | (with_reducible assumption) | assumption)
                    obtain ⟨ad210, e210, hx210_0, hx210_1, hx210_2⟩ := at_T80 HR1.out x5_1 p210 q210
                    cases e210
                    replace p210 := eq_true p210
                    replace q210 := eq_true q210
                    have p211 : 0 ≤ (x5_1 : Int) := of_decide_eq_true (by first | (with_reducible assumption) | assumption)
                    have q211 : x5_1 < (l0.length : Int) := of_decide_eq_true (by first | (with_reducible assumption) | assumption)
                    obtain ⟨ad211, e211, hx211_0, hx211_1, hx211_2⟩ := at_T52 HR0.out x5_1 p211 q211
                    obtain rfl : ad209 = ad211 := (by injection e211)
                    replace p211 := eq_true p211
                    replace q211 := eq_true q211
                    have p212 : 0 ≤ (x5_1 : Int) := of_decide_eq_true (by first | (with_reducible assumption) | assumption)
                    have q212 : x5_1 < (l1.length : Int) := of_decide_eq_true (by first | (with_reducible assumption) | assumption)
                    obtain ⟨ad212, e212, hx212_0, hx212_1, hx212_2⟩ := at_T80 HR1.out x5_1 p212 q212
                    obtain rfl : ad210 = ad212 := (by injection e212)
                    replace p212 := eq_true p212
                    replace q212 := eq_true q212
                    have p213 : 0 ≤ (x5_1 : Int) := of_decide_eq_true (by first | (with_reducible assumption) | assumption)
                    have q213 : x5_1 < (l0.length : Int) := of_decide_eq_true (by first | (with_reducible assumption) | assumption)
                    obtain ⟨ad213, e213, hx213_0, hx213_1, hx213_2⟩ := at_T52 HR0.out x5_1 p213 q213
                    obtain rfl : ad209 = ad213 := (by injection e213)
                    replace p213 := eq_true p213
                    replace q213 := eq_true q213
                    have p214 : 0 ≤ (x5_1 : Int) := of_decide_eq_true (by first | (with_reducible assumption) | assumption)
                    have q214 : x5_1 < (l1.length : Int) := of_decide_eq_true (by first | (with_reducible assumption) | assumption)
                    obtain ⟨ad214, e214, hx214_0, hx214_1, hx214_2⟩ := at_T80 HR1.out x5_1 p214 q214
                    obtain rfl : ad210 = ad214 := (by injection e214)
                    replace p214 := eq_true p214
                    replace q214 := eq_true q214
                    go_wp2
                    repeat (go_quiet (fail); try go_wp2)
                    go_roundg k1
                    case measure => have := HK1.out; omega
                    case rel => exact ⟨(wrap64 (x5_1 + 1)), (by first | rfl | (simp; done) | (simp [*]; done)), H', ⟨by have := HK1.out; omega⟩, by repeat (first | exact Drawn0.refl _ | apply Drawn0.step)⟩
                  · rw [if_neg c9] at H
                    have c9b0 : (((rd_T52 l0 x5_1).f2) == ((rd_T80 l1 x5_1).f2)) = false := beq_eq_false_iff_ne.mpr c9
                    have c9b1 : (((rd_T52 l0 x5_1).f2) != ((rd_T80 l1 x5_1).f2)) = true := bne_iff_ne.mpr c9
                    exact absurd ((Option.some.inj H).trans Hr.out) (by decide)
                · rw [if_neg c8] at H
                  have c8b0 : (((rd_T52 l0 x5_1).f1) == ((rd_T80 l1 x5_1).f1)) = false := beq_eq_false_iff_ne.mpr c8
                  have c8b1 : (((rd_T52 l0 x5_1).f1) != ((rd_T80 l1 x5_1).f1)) = true := bne_iff_ne.mpr c8
                  exact absurd ((Option.some.inj H).trans Hr.out) (by decide)
              · rw [if_neg c7] at H
                have c7b0 : (((rd_T52 l0 x5_1).f0).toList == ((rd_T80 l1 x5_1).f0).toList) = false := beq_eq_false_iff_ne.mpr c7
                have c7b1 : (((rd_T52 l0 x5_1).f0).toList != ((rd_T80 l1 x5_1).f0).toList) = true := bne_iff_ne.mpr c7
                exact absurd ((Option.some.inj H).trans Hr.out) (by decide)
            · rw [if_neg c6] at H
              exact absurd H (by simp)
          · rw [if_neg c5] at H
            exact absurd H (by simp)
        · rw [if_neg c4] at H
          have c4b0 : decide (x5_1 < (l0.length : Int)) = false := decide_eq_false c4
          clear c4
          obtain rfl := Option.some.inj H
          go_wp2
          repeat (go_quiet (fail); try go_wp2)
          go_ret
          exact ⟨by first | rfl | (simp; done) | (simp [*]; done), by repeat (first | exact Drawn0.refl _ | apply Drawn0.step)⟩
  · rw [if_neg c3] at H
    have c3b0 : ((l0.length : Int) == (l1.length : Int)) = false := beq_eq_false_iff_ne.mpr c3
    have c3b1 : ((l0.length : Int) != (l1.length : Int)) = true := bne_iff_ne.mpr c3
    have c3b2 : (l0.length == l1.length) = false := by first | simpa using c3 | (simp at c3 ⊢; omega)
    exact absurd ((Option.some.inj H).trans Hr.out) (by decide)

end Go.Proofs.Ytgdnljhndjlefaa.PNeedFits
