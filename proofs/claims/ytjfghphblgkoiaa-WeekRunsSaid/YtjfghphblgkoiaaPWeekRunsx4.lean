/- This text holds, for Go functions of the given program, Lean functions with the same answers, and proofs that the machine's calls come to these answers; each theorem names its own conditions. It was laid by a program of this session. -/
import Derived.Test.YtjfghphblgkoiaaPWeekRunsx0
import Derived.Test.YtjfghphblgkoiaaPWeekRunsx2
import Derived.Test.YtjfghphblgkoiaaPWeekRunsx3
namespace Go.Proofs.Ytjfghphblgkoiaa.PWeekRuns
open Go.RowKit Go.Proofs.YtjfghphblgkoiaaW.PrintWords Go.Proofs.YtjfghphblgkoiaaW.PrintLast Go.Proofs.YtjfghphblgkoiaaW.PrintMore
attribute [local go_sem] max2_int min2_int max_two min_two max_three min_three max_four min_four   -- for this text's walks alone
set_option linter.unusedVariables false
set_option linter.unusedSimpArgs false

/-! ### dayshiftlaw02_WeekRuns: function 5 -/
mutual
def dayshiftlaw02_WeekRuns.j0 : Nat → Int → Int → Bool → Option (Bool)
  | 0, _, _, _ => none
  | k + 1, x0, x3, x33 => if x33 = true then ((dayshiftlaw02_known.f k).bind fun t154 => (some t154)) else ((week_Week.f k (wrap64 (x0 - x3))).bind fun bt155 => (dayshiftlaw02_WeekRuns.l0 k x0 x3 bt155.1 bt155.2.1 bt155.2.2 1))
def dayshiftlaw02_WeekRuns.l0 : Nat → Int → Int → Int → Int → Int → Int → Option (Bool)
  | 0, _, _, _, _, _, _ => none
  | k + 1, x0, x3, x5, x6, x7, x8 => if x8 < 7 then ((week_Week.f k (wrap64 ((wrap64 (x0 - x3)) + x8))).bind fun bt158 => (if bt158.1 = x5 then (if bt158.2.1 = x6 then (if bt158.2.2 = 0 then (dayshiftlaw02_WeekRuns.l0 k x0 x3 x5 x6 x7 (wrap64 (x8 + 1))) else (some false)) else (some false)) else (some false))) else ((week_Week.f k (wrap64 ((wrap64 (x0 - x3)) + 7))).bind fun bt161 => (if x7 = 0 then (if bt161.2.2 = 0 then (if bt161.1 = x5 then (if bt161.2.1 = (wrap64 (x6 + 1)) then ((dayshiftlaw02_known.f k).bind fun t164 => (some t164)) else (if bt161.1 = (wrap64 (x5 + 1)) then (if bt161.2.1 = 1 then (if x6 ≥ 52 then ((dayshiftlaw02_known.f k).bind fun t165 => (some t165)) else (some false)) else (some false)) else (some false))) else (if bt161.1 = (wrap64 (x5 + 1)) then (if bt161.2.1 = 1 then (if x6 ≥ 52 then ((dayshiftlaw02_known.f k).bind fun t166 => (some t166)) else (some false)) else (some false)) else (some false))) else (some false)) else (some false)))
end
def dayshiftlaw02_WeekRuns.f (k : Nat) (a0 : Int) : Option (Bool) := (dayshiftref01_Weekday.f a0).bind fun bt152 => (if bt152.2 = 0 then (if (wrap64 (a0 - bt152.1)) < 1 then (dayshiftlaw02_WeekRuns.j0 k a0 bt152.1 true) else (dayshiftlaw02_WeekRuns.j0 k a0 bt152.1 (decide ((wrap64 (a0 - bt152.1)) > 3652046)))) else (dayshiftlaw02_WeekRuns.j0 k a0 bt152.1 true))
theorem dayshiftlaw02_WeekRuns.mono_l : ∀ k, (∀ y0 y1 y2, LeO (dayshiftlaw02_WeekRuns.j0 k y0 y1 y2) (dayshiftlaw02_WeekRuns.j0 (k + 1) y0 y1 y2)) ∧ (∀ y0 y1 y2 y3 y4 y5, LeO (dayshiftlaw02_WeekRuns.l0 k y0 y1 y2 y3 y4 y5) (dayshiftlaw02_WeekRuns.l0 (k + 1) y0 y1 y2 y3 y4 y5))
  | 0 => ⟨fun _ _ _ r h => by simp [dayshiftlaw02_WeekRuns.j0] at h, fun _ _ _ _ _ _ r h => by simp [dayshiftlaw02_WeekRuns.l0] at h⟩
  | k + 1 => by
    obtain ⟨ih0, ih1⟩ := dayshiftlaw02_WeekRuns.mono_l k
    refine ⟨?_, ?_⟩
    · intro y0 y1 y2
      unfold dayshiftlaw02_WeekRuns.j0
      repeat' first
      | (with_reducible exact ih0 _ _ _)
      | (with_reducible exact ih1 _ _ _ _ _ _)
      | (with_reducible exact dayshiftlaw02_known.mono _)
      | (with_reducible exact week_Week.mono _ _)
      | (with_reducible exact LeO.refl _)
      | (with_reducible exact LeO.none _)
      | (with_reducible refine LeO.ite ?_ ?_)
      | (with_reducible refine LeO.bind ?_ (fun _ => ?_))
      | exact ih0 _ _ _
      | exact ih1 _ _ _ _ _ _
      | exact dayshiftlaw02_known.mono _
      | exact week_Week.mono _ _
      | exact LeO.none _
      | refine LeO.ite ?_ ?_
      | refine LeO.bind ?_ (fun _ => ?_)
    · intro y0 y1 y2 y3 y4 y5
      unfold dayshiftlaw02_WeekRuns.l0
      repeat' first
      | (with_reducible exact ih0 _ _ _)
      | (with_reducible exact ih1 _ _ _ _ _ _)
      | (with_reducible exact dayshiftlaw02_known.mono _)
      | (with_reducible exact week_Week.mono _ _)
      | (with_reducible exact LeO.refl _)
      | (with_reducible exact LeO.none _)
      | (with_reducible refine LeO.ite ?_ ?_)
      | (with_reducible refine LeO.bind ?_ (fun _ => ?_))
      | exact ih0 _ _ _
      | exact ih1 _ _ _ _ _ _
      | exact dayshiftlaw02_known.mono _
      | exact week_Week.mono _ _
      | exact LeO.none _
      | refine LeO.ite ?_ ?_
      | refine LeO.bind ?_ (fun _ => ?_)
theorem dayshiftlaw02_WeekRuns.mono : ∀ a0 k, LeO (dayshiftlaw02_WeekRuns.f k a0) (dayshiftlaw02_WeekRuns.f (k + 1) a0) := by
  intro a0 k
  obtain ⟨ih0, ih1⟩ := dayshiftlaw02_WeekRuns.mono_l k
  unfold dayshiftlaw02_WeekRuns.f
  repeat' first
      | (with_reducible exact ih0 _ _ _)
      | (with_reducible exact ih1 _ _ _ _ _ _)
      | (with_reducible exact dayshiftlaw02_known.mono _)
      | (with_reducible exact week_Week.mono _ _)
      | (with_reducible exact LeO.refl _)
      | (with_reducible exact LeO.none _)
      | (with_reducible refine LeO.ite ?_ ?_)
      | (with_reducible refine LeO.bind ?_ (fun _ => ?_))
      | exact ih0 _ _ _
      | exact ih1 _ _ _ _ _ _
      | exact dayshiftlaw02_known.mono _
      | exact week_Week.mono _ _
      | exact LeO.none _
      | refine LeO.ite ?_ ?_
      | refine LeO.bind ?_ (fun _ => ?_)
set_option maxHeartbeats 8000000 in
set_option maxRecDepth 100000 in
theorem dayshiftlaw02_WeekRuns.calls (k : Nat) (a0 : Int) (r : Bool) (w : World) (h : dayshiftlaw02_WeekRuns.f k a0 = some r) :
    Calls Try.prog 5 #[.int .i64 a0] w fun e w' => e = .returned (.bool r) ∧ Below w.heap.size w w' := by
  have HB := Aside0.mk (Below.refl w.heap.size w)
  have H : ((dayshiftref01_Weekday.f a0).bind fun bt152 => (if bt152.2 = 0 then (if (wrap64 (a0 - bt152.1)) < 1 then (dayshiftlaw02_WeekRuns.j0 k a0 bt152.1 true) else (dayshiftlaw02_WeekRuns.j0 k a0 bt152.1 (decide ((wrap64 (a0 - bt152.1)) > 3652046)))) else (dayshiftlaw02_WeekRuns.j0 k a0 bt152.1 true))) = some r := h
  clear h
  replace H := Option.bind_eq_some_iff.mp H
  obtain ⟨⟨t152, t153⟩, A20, H⟩ := H
  replace H : (if t153 = 0 then (if (wrap64 (a0 - t152)) < 1 then (dayshiftlaw02_WeekRuns.j0 k a0 t152 true) else (dayshiftlaw02_WeekRuns.j0 k a0 t152 (decide ((wrap64 (a0 - t152)) > 3652046)))) else (dayshiftlaw02_WeekRuns.j0 k a0 t152 true)) = some r := H
  have A2 := Aside0.mk A20
  clear A20
  have HC3 := Aside0.mk H
  clear H
  go_enter Try.func5, Try.ntmps5
  go_upto_region 2 with (first | ((with_reducible refine gate_callee (f := 14) rfl ?_); refine goesL_ (some 17) rfl rfl Try.func14 (by kernel_rfl) rfl #[.int .i64 a0] rfl (by (try simp only [List.map_toArray, List.map_cons, List.map_nil]); first | done | rfl | (simp only [List.length_drop, List.length_take]; rfl)) ?_; (with_reducible refine (dayshiftref01_Weekday.calls a0 t152 t153 _ A2.out).mono ?_); rintro e w' ⟨rfl, ⟨nd, rfl⟩⟩; refine ⟨_, rfl, ?_⟩))
  (try simp only [Act.put, List.setIfInBounds_toArray, List.set_cons_zero, List.set_cons_succ])
  go_cut [33] (fun v33 wc => ∃ (kq : Nat) (x33_2 : Bool), v33 = .bool x33_2 ∧ Aside0 (dayshiftlaw02_WeekRuns.j0 kq a0 t152 x33_2 = some r) ∧ Aside0 (kq ≤ k) ∧ Aside0 (Below w.heap.size w wc))
  case first =>
    have H := HC3.out
    clear HC3
    by_cases c4 : t153 = 0
    · rw [if_pos c4] at H
      have c4b0 : (t153 == 0) = true := beq_iff_eq.mpr c4
      have c4b1 : (t153 != 0) = false := bne_eq_false_iff_eq.mpr c4
      clear c4
      (first | rw [c4b0] | (simp only [i64_w, i32_w]; rw [c4b0]) | skip)
      by_cases c5 : (wrap64 (a0 - t152)) < 1
      · rw [if_pos c5] at H
        have c5b0 : decide ((wrap64 (a0 - t152)) < 1) = true := decide_eq_true c5
        clear c5
        have H' := Aside0.mk H
        clear H
        go_wp2
        go_meet
        case rel => exact ⟨_, (true), (by first | rfl | (simp; done) | (simp [*]; done)), H', ⟨by first | omega | exact Nat.le_refl _⟩, ⟨by repeat (first | (with_reducible first | exact HB.out | apply below_alloc | apply pw_below_drewN | apply below_drew1) | exact HB.out)⟩⟩
      · rw [if_neg c5] at H
        have c5b0 : decide ((wrap64 (a0 - t152)) < 1) = false := decide_eq_false c5
        clear c5
        have H' := Aside0.mk H
        clear H
        go_wp2
        go_meet
        case rel => exact ⟨_, (decide ((wrap64 (a0 - t152)) > 3652046)), (by first | rfl | (simp; done) | (simp [*]; done)), H', ⟨by first | omega | exact Nat.le_refl _⟩, ⟨by repeat (first | (with_reducible first | exact HB.out | apply below_alloc | apply pw_below_drewN | apply below_drew1) | exact HB.out)⟩⟩
    · rw [if_neg c4] at H
      have c4b0 : (t153 == 0) = false := beq_eq_false_iff_ne.mpr c4
      have c4b1 : (t153 != 0) = true := bne_iff_ne.mpr c4
      (first | rw [c4b0] | (simp only [i64_w, i32_w]; rw [c4b0]) | skip)
      have H' := Aside0.mk H
      clear H
      go_wp2
      go_meet
      case rel => exact ⟨_, (true), (by first | rfl | (simp; done) | (simp [*]; done)), H', ⟨by first | omega | exact Nat.le_refl _⟩, ⟨by repeat (first | (with_reducible first | exact HB.out | apply below_alloc | apply pw_below_drewN | apply below_drew1) | exact HB.out)⟩⟩
  case rest =>
    clear HC3
    try clear c1
    try clear p2
    try clear c4
    try clear c4b0
    try clear c4b1
    try clear c5
    try clear c5b0
    obtain ⟨kq, x33_2, rfl, HA, HJ2, HB⟩ := hcut
    cases kq with
    | zero => exact absurd HA.out (by simp [dayshiftlaw02_WeekRuns.j0])
    | succ kj2 =>
      have H := HA.out
      clear HA
      simp only [dayshiftlaw02_WeekRuns.j0] at H
      by_cases c6 : x33_2 = true
      · subst c6
        have H1 : ((dayshiftlaw02_known.f kj2).bind fun t154 => (some t154)) = some r := by rw [if_pos rfl] at H; exact H
        clear H
        have H := H1
        clear H1
        replace H := Option.bind_eq_some_iff.mp H
        obtain ⟨t154, A70, H⟩ := H
        replace H : (some t154) = some r := H
        have A7 := Aside0.mk A70
        clear A70
        obtain rfl := Option.some.inj H
        go_wp2_with (first | ((with_reducible refine gate_callee (f := 12) rfl ?_); refine goesL_ (some 34) rfl rfl Try.func12 (by kernel_rfl) rfl #[] rfl (by (try simp only [List.map_toArray, List.map_cons, List.map_nil]); first | done | rfl | (simp only [List.length_drop, List.length_take]; rfl)) ?_; (with_reducible refine (dayshiftlaw02_known.calls kj2  t154 _ A7.out).mono ?_); rintro e w8 ⟨rfl, hb⟩; refine ⟨_, rfl, ?_⟩; have n0_ := Aside0.mk (below_step (by repeat (first | (with_reducible first | exact HB.out | apply below_alloc | apply pw_below_drewN | apply below_drew1) | exact HB.out)) hb); clear HB; have HB := n0_; clear n0_; (try clear hb); (try clear hb2); (try clear hk); (try clear hi)))
        go_ret
        exact ⟨by first | rfl | (simp [errW_none, errW_some] <;> rfl) | (simp [*, errW_none, errW_some] <;> rfl), by repeat (first | (with_reducible first | exact HB.out | apply below_alloc | apply pw_below_drewN | apply below_drew1) | exact HB.out)⟩
      · replace c6 := Bool.eq_false_iff.mpr c6
        subst c6
        have H1 : ((week_Week.f kj2 (wrap64 (a0 - t152))).bind fun bt155 => (dayshiftlaw02_WeekRuns.l0 kj2 a0 t152 bt155.1 bt155.2.1 bt155.2.2 1)) = some r := by rw [if_neg (show ¬ (false = true) by decide)] at H; exact H
        clear H
        have H := H1
        clear H1
        replace H := Option.bind_eq_some_iff.mp H
        obtain ⟨⟨t155, t156, t157⟩, A90, H⟩ := H
        replace H : (dayshiftlaw02_WeekRuns.l0 kj2 a0 t152 t155 t156 t157 1) = some r := H
        have A9 := Aside0.mk A90
        clear A90
        have H' := Aside0.mk H
        clear H
        go_wp2_with (first | ((with_reducible refine gate_callee (f := 15) rfl ?_); refine goesL_ (some 39) rfl rfl Try.func15 (by kernel_rfl) rfl #[.int .i64 (wrap64 (a0 - t152))] rfl (by (try simp only [List.map_toArray, List.map_cons, List.map_nil]); first | done | rfl | (simp only [List.length_drop, List.length_take]; rfl)) ?_; (with_reducible refine (week_Week.calls kj2 (wrap64 (a0 - t152)) t155 t156 t157 _ A9.out).mono ?_); rintro e w10 ⟨rfl, hb⟩; refine ⟨_, rfl, ?_⟩; have n0_ := Aside0.mk (below_step (by repeat (first | (with_reducible first | exact HB.out | apply below_alloc | apply pw_below_drewN | apply below_drew1) | exact HB.out)) hb); clear HB; have HB := n0_; clear n0_; (try clear hb); (try clear hb2); (try clear hk); (try clear hi)))
        go_loopg [8] kj2 (fun kq v8 w' => ∃ (x8_2 : Int), v8 = .int .i64 x8_2 ∧ Aside0 (dayshiftlaw02_WeekRuns.l0 kq a0 t152 t155 t156 t157 x8_2 = some r) ∧ Aside0 (kq ≤ kj2) ∧ Aside0 (Below w.heap.size w w'))
        case atStart => exact ⟨(1), (by first | rfl | (simp; done) | (simp [*]; done)), H', ⟨Nat.le_refl _⟩, ⟨by repeat (first | (with_reducible first | exact HB.out | apply below_alloc | apply pw_below_drewN | apply below_drew1) | exact HB.out)⟩⟩
        case round =>
          clear H'
          try clear c1
          try clear p2
          try clear c4
          try clear c4b0
          try clear c4b1
          try clear c5
          try clear c5b0
          try clear c6
          try clear p6
          try clear p2
          obtain ⟨x8_2, rfl, HA, HK2, HB⟩ := hrel
          cases gk with
          | zero => exact absurd HA.out (by simp [dayshiftlaw02_WeekRuns.l0])
          | succ k2 =>
            have H := HA.out
            clear HA
            simp only [dayshiftlaw02_WeekRuns.l0] at H
            by_cases c11 : x8_2 < 7
            · rw [if_pos c11] at H
              have c11b0 : decide (x8_2 < 7) = true := decide_eq_true c11
              clear c11
              replace H := Option.bind_eq_some_iff.mp H
              obtain ⟨⟨t158, t159, t160⟩, A120, H⟩ := H
              replace H : (if t158 = t155 then (if t159 = t156 then (if t160 = 0 then (dayshiftlaw02_WeekRuns.l0 k2 a0 t152 t155 t156 t157 (wrap64 (x8_2 + 1))) else (some false)) else (some false)) else (some false)) = some r := H
              have A12 := Aside0.mk A120
              clear A120
              by_cases c13 : t158 = t155
              · rw [if_pos c13] at H
                have c13b0 : (t158 == t155) = true := beq_iff_eq.mpr c13
                have c13b1 : (t158 != t155) = false := bne_eq_false_iff_eq.mpr c13
                clear c13
                by_cases c14 : t159 = t156
                · rw [if_pos c14] at H
                  have c14b0 : (t159 == t156) = true := beq_iff_eq.mpr c14
                  have c14b1 : (t159 != t156) = false := bne_eq_false_iff_eq.mpr c14
                  clear c14
                  by_cases c15 : t160 = 0
                  · rw [if_pos c15] at H
                    have c15b0 : (t160 == 0) = true := beq_iff_eq.mpr c15
                    have c15b1 : (t160 != 0) = false := bne_eq_false_iff_eq.mpr c15
                    clear c15
                    have H' := Aside0.mk H
                    clear H
                    go_wp2_with (first | ((with_reducible refine gate_callee (f := 15) rfl ?_); refine goesL_ (some 53) rfl rfl Try.func15 (by kernel_rfl) rfl #[.int .i64 (wrap64 ((wrap64 (a0 - t152)) + x8_2))] rfl (by (try simp only [List.map_toArray, List.map_cons, List.map_nil]); first | done | rfl | (simp only [List.length_drop, List.length_take]; rfl)) ?_; (with_reducible refine (week_Week.calls k2 (wrap64 ((wrap64 (a0 - t152)) + x8_2)) t158 t159 t160 _ A12.out).mono ?_); rintro e w16 ⟨rfl, hb⟩; refine ⟨_, rfl, ?_⟩; have n0_ := Aside0.mk (below_step (by repeat (first | (with_reducible first | exact HB.out | apply below_alloc | apply pw_below_drewN | apply below_drew1) | exact HB.out)) hb); clear HB; have HB := n0_; clear n0_; (try clear hb); (try clear hb2); (try clear hk); (try clear hi)))
                    go_roundg k2
                    case measure => have := HJ2.out; have := HK2.out; omega
                    case rel => exact ⟨(wrap64 (x8_2 + 1)), (by first | rfl | (simp; done) | (simp [*]; done)), H', ⟨by have := HJ2.out; have := HK2.out; omega⟩, ⟨by repeat (first | (with_reducible first | exact HB.out | apply below_alloc | apply pw_below_drewN | apply below_drew1) | exact HB.out)⟩⟩
                  · rw [if_neg c15] at H
                    have c15b0 : (t160 == 0) = false := beq_eq_false_iff_ne.mpr c15
                    have c15b1 : (t160 != 0) = true := bne_iff_ne.mpr c15
                    obtain rfl := Option.some.inj H
                    go_wp2_with (first | ((with_reducible refine gate_callee (f := 15) rfl ?_); refine goesL_ (some 53) rfl rfl Try.func15 (by kernel_rfl) rfl #[.int .i64 (wrap64 ((wrap64 (a0 - t152)) + x8_2))] rfl (by (try simp only [List.map_toArray, List.map_cons, List.map_nil]); first | done | rfl | (simp only [List.length_drop, List.length_take]; rfl)) ?_; (with_reducible refine (week_Week.calls k2 (wrap64 ((wrap64 (a0 - t152)) + x8_2)) t158 t159 t160 _ A12.out).mono ?_); rintro e w17 ⟨rfl, hb⟩; refine ⟨_, rfl, ?_⟩; have n0_ := Aside0.mk (below_step (by repeat (first | (with_reducible first | exact HB.out | apply below_alloc | apply pw_below_drewN | apply below_drew1) | exact HB.out)) hb); clear HB; have HB := n0_; clear n0_; (try clear hb); (try clear hb2); (try clear hk); (try clear hi)))
                    go_ret
                    exact ⟨by first | rfl | (simp [errW_none, errW_some] <;> rfl) | (simp [*, errW_none, errW_some] <;> rfl), by repeat (first | (with_reducible first | exact HB.out | apply below_alloc | apply pw_below_drewN | apply below_drew1) | exact HB.out)⟩
                · rw [if_neg c14] at H
                  have c14b0 : (t159 == t156) = false := beq_eq_false_iff_ne.mpr c14
                  have c14b1 : (t159 != t156) = true := bne_iff_ne.mpr c14
                  obtain rfl := Option.some.inj H
                  go_wp2_with (first | ((with_reducible refine gate_callee (f := 15) rfl ?_); refine goesL_ (some 53) rfl rfl Try.func15 (by kernel_rfl) rfl #[.int .i64 (wrap64 ((wrap64 (a0 - t152)) + x8_2))] rfl (by (try simp only [List.map_toArray, List.map_cons, List.map_nil]); first | done | rfl | (simp only [List.length_drop, List.length_take]; rfl)) ?_; (with_reducible refine (week_Week.calls k2 (wrap64 ((wrap64 (a0 - t152)) + x8_2)) t158 t159 t160 _ A12.out).mono ?_); rintro e w18 ⟨rfl, hb⟩; refine ⟨_, rfl, ?_⟩; have n0_ := Aside0.mk (below_step (by repeat (first | (with_reducible first | exact HB.out | apply below_alloc | apply pw_below_drewN | apply below_drew1) | exact HB.out)) hb); clear HB; have HB := n0_; clear n0_; (try clear hb); (try clear hb2); (try clear hk); (try clear hi)))
                  go_ret
                  exact ⟨by first | rfl | (simp [errW_none, errW_some] <;> rfl) | (simp [*, errW_none, errW_some] <;> rfl), by repeat (first | (with_reducible first | exact HB.out | apply below_alloc | apply pw_below_drewN | apply below_drew1) | exact HB.out)⟩
              · rw [if_neg c13] at H
                have c13b0 : (t158 == t155) = false := beq_eq_false_iff_ne.mpr c13
                have c13b1 : (t158 != t155) = true := bne_iff_ne.mpr c13
                obtain rfl := Option.some.inj H
                go_wp2_with (first | ((with_reducible refine gate_callee (f := 15) rfl ?_); refine goesL_ (some 53) rfl rfl Try.func15 (by kernel_rfl) rfl #[.int .i64 (wrap64 ((wrap64 (a0 - t152)) + x8_2))] rfl (by (try simp only [List.map_toArray, List.map_cons, List.map_nil]); first | done | rfl | (simp only [List.length_drop, List.length_take]; rfl)) ?_; (with_reducible refine (week_Week.calls k2 (wrap64 ((wrap64 (a0 - t152)) + x8_2)) t158 t159 t160 _ A12.out).mono ?_); rintro e w19 ⟨rfl, hb⟩; refine ⟨_, rfl, ?_⟩; have n0_ := Aside0.mk (below_step (by repeat (first | (with_reducible first | exact HB.out | apply below_alloc | apply pw_below_drewN | apply below_drew1) | exact HB.out)) hb); clear HB; have HB := n0_; clear n0_; (try clear hb); (try clear hb2); (try clear hk); (try clear hi)))
                go_ret
                exact ⟨by first | rfl | (simp [errW_none, errW_some] <;> rfl) | (simp [*, errW_none, errW_some] <;> rfl), by repeat (first | (with_reducible first | exact HB.out | apply below_alloc | apply pw_below_drewN | apply below_drew1) | exact HB.out)⟩
            · rw [if_neg c11] at H
              have c11b0 : decide (x8_2 < 7) = false := decide_eq_false c11
              clear c11
              replace H := Option.bind_eq_some_iff.mp H
              obtain ⟨⟨t161, t162, t163⟩, A200, H⟩ := H
              replace H : (if t157 = 0 then (if t163 = 0 then (if t161 = t155 then (if t162 = (wrap64 (t156 + 1)) then ((dayshiftlaw02_known.f k2).bind fun t164 => (some t164)) else (if t161 = (wrap64 (t155 + 1)) then (if t162 = 1 then (if t156 ≥ 52 then ((dayshiftlaw02_known.f k2).bind fun t165 => (some t165)) else (some false)) else (some false)) else (some false))) else (if t161 = (wrap64 (t155 + 1)) then (if t162 = 1 then (if t156 ≥ 52 then ((dayshiftlaw02_known.f k2).bind fun t166 => (some t166)) else (some false)) else (some false)) else (some false))) else (some false)) else (some false)) = some r := H
              have A20 := Aside0.mk A200
              clear A200
              by_cases c21 : t157 = 0
              · rw [if_pos c21] at H
                have c21b0 : (t157 == 0) = true := beq_iff_eq.mpr c21
                have c21b1 : (t157 != 0) = false := bne_eq_false_iff_eq.mpr c21
                clear c21
                by_cases c22 : t163 = 0
                · rw [if_pos c22] at H
                  have c22b0 : (t163 == 0) = true := beq_iff_eq.mpr c22
                  have c22b1 : (t163 != 0) = false := bne_eq_false_iff_eq.mpr c22
                  clear c22
                  by_cases c23 : t161 = t155
                  · rw [if_pos c23] at H
                    have c23b0 : (t161 == t155) = true := beq_iff_eq.mpr c23
                    have c23b1 : (t161 != t155) = false := bne_eq_false_iff_eq.mpr c23
                    clear c23
                    by_cases c24 : t162 = (wrap64 (t156 + 1))
                    · rw [if_pos c24] at H
                      have c24b0 : (t162 == (wrap64 (t156 + 1))) = true := beq_iff_eq.mpr c24
                      have c24b1 : (t162 != (wrap64 (t156 + 1))) = false := bne_eq_false_iff_eq.mpr c24
                      clear c24
                      replace H := Option.bind_eq_some_iff.mp H
                      obtain ⟨t164, A250, H⟩ := H
                      replace H : (some t164) = some r := H
                      have A25 := Aside0.mk A250
                      clear A250
                      obtain rfl := Option.some.inj H
                      go_wp2_with (first | ((with_reducible refine gate_callee (f := 15) rfl ?_); refine goesL_ (some 74) rfl rfl Try.func15 (by kernel_rfl) rfl #[.int .i64 (wrap64 ((wrap64 (a0 - t152)) + 7))] rfl (by (try simp only [List.map_toArray, List.map_cons, List.map_nil]); first | done | rfl | (simp only [List.length_drop, List.length_take]; rfl)) ?_; (with_reducible refine (week_Week.calls k2 (wrap64 ((wrap64 (a0 - t152)) + 7)) t161 t162 t163 _ A20.out).mono ?_); rintro e w26 ⟨rfl, hb⟩; refine ⟨_, rfl, ?_⟩; have n0_ := Aside0.mk (below_step (by repeat (first | (with_reducible first | exact HB.out | apply below_alloc | apply pw_below_drewN | apply below_drew1) | exact HB.out)) hb); clear HB; have HB := n0_; clear n0_; (try clear hb); (try clear hb2); (try clear hk); (try clear hi)) | (go_at_call 12; (with_reducible refine (dayshiftlaw02_known.calls k2  t164 _ A25.out).mono ?_); rintro e w27 ⟨rfl, hb⟩; have n0_ := Aside0.mk (below_step (by repeat (first | (with_reducible first | exact HB.out | apply below_alloc | apply pw_below_drewN | apply below_drew1) | exact HB.out)) hb); clear HB; have HB := n0_; clear n0_; (try clear hb); (try clear hb2); (try clear hk); (try clear hi)))
                      go_ret
                      exact ⟨by first | rfl | (simp [errW_none, errW_some] <;> rfl) | (simp [*, errW_none, errW_some] <;> rfl), by repeat (first | (with_reducible first | exact HB.out | apply below_alloc | apply pw_below_drewN | apply below_drew1) | exact HB.out)⟩
                    · rw [if_neg c24] at H
                      have c24b0 : (t162 == (wrap64 (t156 + 1))) = false := beq_eq_false_iff_ne.mpr c24
                      have c24b1 : (t162 != (wrap64 (t156 + 1))) = true := bne_iff_ne.mpr c24
                      by_cases c28 : t161 = (wrap64 (t155 + 1))
                      · rw [if_pos c28] at H
                        have c28b0 : (t161 == (wrap64 (t155 + 1))) = true := beq_iff_eq.mpr c28
                        have c28b1 : (t161 != (wrap64 (t155 + 1))) = false := bne_eq_false_iff_eq.mpr c28
                        clear c28
                        by_cases c29 : t162 = 1
                        · rw [if_pos c29] at H
                          have c29b0 : (t162 == 1) = true := beq_iff_eq.mpr c29
                          have c29b1 : (t162 != 1) = false := bne_eq_false_iff_eq.mpr c29
                          clear c29
                          by_cases c30 : t156 ≥ 52
                          · rw [if_pos c30] at H
                            have c30b0 : decide (52 ≤ t156) = true := decide_eq_true c30
                            clear c30
                            replace H := Option.bind_eq_some_iff.mp H
                            obtain ⟨t165, A310, H⟩ := H
                            replace H : (some t165) = some r := H
                            have A31 := Aside0.mk A310
                            clear A310
                            obtain rfl := Option.some.inj H
                            go_wp2_with (first | ((with_reducible refine gate_callee (f := 15) rfl ?_); refine goesL_ (some 74) rfl rfl Try.func15 (by kernel_rfl) rfl #[.int .i64 (wrap64 ((wrap64 (a0 - t152)) + 7))] rfl (by (try simp only [List.map_toArray, List.map_cons, List.map_nil]); first | done | rfl | (simp only [List.length_drop, List.length_take]; rfl)) ?_; (with_reducible refine (week_Week.calls k2 (wrap64 ((wrap64 (a0 - t152)) + 7)) t161 t162 t163 _ A20.out).mono ?_); rintro e w32 ⟨rfl, hb⟩; refine ⟨_, rfl, ?_⟩; have n0_ := Aside0.mk (below_step (by repeat (first | (with_reducible first | exact HB.out | apply below_alloc | apply pw_below_drewN | apply below_drew1) | exact HB.out)) hb); clear HB; have HB := n0_; clear n0_; (try clear hb); (try clear hb2); (try clear hk); (try clear hi)) | (go_at_call 12; (with_reducible refine (dayshiftlaw02_known.calls k2  t165 _ A31.out).mono ?_); rintro e w33 ⟨rfl, hb⟩; have n0_ := Aside0.mk (below_step (by repeat (first | (with_reducible first | exact HB.out | apply below_alloc | apply pw_below_drewN | apply below_drew1) | exact HB.out)) hb); clear HB; have HB := n0_; clear n0_; (try clear hb); (try clear hb2); (try clear hk); (try clear hi)))
                            go_ret
                            exact ⟨by first | rfl | (simp [errW_none, errW_some] <;> rfl) | (simp [*, errW_none, errW_some] <;> rfl), by repeat (first | (with_reducible first | exact HB.out | apply below_alloc | apply pw_below_drewN | apply below_drew1) | exact HB.out)⟩
                          · rw [if_neg c30] at H
                            have c30b0 : decide (52 ≤ t156) = false := decide_eq_false c30
                            clear c30
                            obtain rfl := Option.some.inj H
                            go_wp2_with (first | ((with_reducible refine gate_callee (f := 15) rfl ?_); refine goesL_ (some 74) rfl rfl Try.func15 (by kernel_rfl) rfl #[.int .i64 (wrap64 ((wrap64 (a0 - t152)) + 7))] rfl (by (try simp only [List.map_toArray, List.map_cons, List.map_nil]); first | done | rfl | (simp only [List.length_drop, List.length_take]; rfl)) ?_; (with_reducible refine (week_Week.calls k2 (wrap64 ((wrap64 (a0 - t152)) + 7)) t161 t162 t163 _ A20.out).mono ?_); rintro e w34 ⟨rfl, hb⟩; refine ⟨_, rfl, ?_⟩; have n0_ := Aside0.mk (below_step (by repeat (first | (with_reducible first | exact HB.out | apply below_alloc | apply pw_below_drewN | apply below_drew1) | exact HB.out)) hb); clear HB; have HB := n0_; clear n0_; (try clear hb); (try clear hb2); (try clear hk); (try clear hi)))
                            go_ret
                            exact ⟨by first | rfl | (simp [errW_none, errW_some] <;> rfl) | (simp [*, errW_none, errW_some] <;> rfl), by repeat (first | (with_reducible first | exact HB.out | apply below_alloc | apply pw_below_drewN | apply below_drew1) | exact HB.out)⟩
                        · rw [if_neg c29] at H
                          have c29b0 : (t162 == 1) = false := beq_eq_false_iff_ne.mpr c29
                          have c29b1 : (t162 != 1) = true := bne_iff_ne.mpr c29
                          obtain rfl := Option.some.inj H
                          go_wp2_with (first | ((with_reducible refine gate_callee (f := 15) rfl ?_); refine goesL_ (some 74) rfl rfl Try.func15 (by kernel_rfl) rfl #[.int .i64 (wrap64 ((wrap64 (a0 - t152)) + 7))] rfl (by (try simp only [List.map_toArray, List.map_cons, List.map_nil]); first | done | rfl | (simp only [List.length_drop, List.length_take]; rfl)) ?_; (with_reducible refine (week_Week.calls k2 (wrap64 ((wrap64 (a0 - t152)) + 7)) t161 t162 t163 _ A20.out).mono ?_); rintro e w35 ⟨rfl, hb⟩; refine ⟨_, rfl, ?_⟩; have n0_ := Aside0.mk (below_step (by repeat (first | (with_reducible first | exact HB.out | apply below_alloc | apply pw_below_drewN | apply below_drew1) | exact HB.out)) hb); clear HB; have HB := n0_; clear n0_; (try clear hb); (try clear hb2); (try clear hk); (try clear hi)))
                          go_ret
                          exact ⟨by first | rfl | (simp [errW_none, errW_some] <;> rfl) | (simp [*, errW_none, errW_some] <;> rfl), by repeat (first | (with_reducible first | exact HB.out | apply below_alloc | apply pw_below_drewN | apply below_drew1) | exact HB.out)⟩
                      · rw [if_neg c28] at H
                        have c28b0 : (t161 == (wrap64 (t155 + 1))) = false := beq_eq_false_iff_ne.mpr c28
                        have c28b1 : (t161 != (wrap64 (t155 + 1))) = true := bne_iff_ne.mpr c28
                        obtain rfl := Option.some.inj H
                        go_wp2_with (first | ((with_reducible refine gate_callee (f := 15) rfl ?_); refine goesL_ (some 74) rfl rfl Try.func15 (by kernel_rfl) rfl #[.int .i64 (wrap64 ((wrap64 (a0 - t152)) + 7))] rfl (by (try simp only [List.map_toArray, List.map_cons, List.map_nil]); first | done | rfl | (simp only [List.length_drop, List.length_take]; rfl)) ?_; (with_reducible refine (week_Week.calls k2 (wrap64 ((wrap64 (a0 - t152)) + 7)) t161 t162 t163 _ A20.out).mono ?_); rintro e w36 ⟨rfl, hb⟩; refine ⟨_, rfl, ?_⟩; have n0_ := Aside0.mk (below_step (by repeat (first | (with_reducible first | exact HB.out | apply below_alloc | apply pw_below_drewN | apply below_drew1) | exact HB.out)) hb); clear HB; have HB := n0_; clear n0_; (try clear hb); (try clear hb2); (try clear hk); (try clear hi)))
                        go_ret
                        exact ⟨by first | rfl | (simp [errW_none, errW_some] <;> rfl) | (simp [*, errW_none, errW_some] <;> rfl), by repeat (first | (with_reducible first | exact HB.out | apply below_alloc | apply pw_below_drewN | apply below_drew1) | exact HB.out)⟩
                  · rw [if_neg c23] at H
                    have c23b0 : (t161 == t155) = false := beq_eq_false_iff_ne.mpr c23
                    have c23b1 : (t161 != t155) = true := bne_iff_ne.mpr c23
                    by_cases c37 : t161 = (wrap64 (t155 + 1))
                    · rw [if_pos c37] at H
                      have c37b0 : (t161 == (wrap64 (t155 + 1))) = true := beq_iff_eq.mpr c37
                      have c37b1 : (t161 != (wrap64 (t155 + 1))) = false := bne_eq_false_iff_eq.mpr c37
                      clear c37
                      by_cases c38 : t162 = 1
                      · rw [if_pos c38] at H
                        have c38b0 : (t162 == 1) = true := beq_iff_eq.mpr c38
                        have c38b1 : (t162 != 1) = false := bne_eq_false_iff_eq.mpr c38
                        clear c38
                        by_cases c39 : t156 ≥ 52
                        · rw [if_pos c39] at H
                          have c39b0 : decide (52 ≤ t156) = true := decide_eq_true c39
                          clear c39
                          replace H := Option.bind_eq_some_iff.mp H
                          obtain ⟨t166, A400, H⟩ := H
                          replace H : (some t166) = some r := H
                          have A40 := Aside0.mk A400
                          clear A400
                          obtain rfl := Option.some.inj H
                          go_wp2_with (first | ((with_reducible refine gate_callee (f := 15) rfl ?_); refine goesL_ (some 74) rfl rfl Try.func15 (by kernel_rfl) rfl #[.int .i64 (wrap64 ((wrap64 (a0 - t152)) + 7))] rfl (by (try simp only [List.map_toArray, List.map_cons, List.map_nil]); first | done | rfl | (simp only [List.length_drop, List.length_take]; rfl)) ?_; (with_reducible refine (week_Week.calls k2 (wrap64 ((wrap64 (a0 - t152)) + 7)) t161 t162 t163 _ A20.out).mono ?_); rintro e w41 ⟨rfl, hb⟩; refine ⟨_, rfl, ?_⟩; have n0_ := Aside0.mk (below_step (by repeat (first | (with_reducible first | exact HB.out | apply below_alloc | apply pw_below_drewN | apply below_drew1) | exact HB.out)) hb); clear HB; have HB := n0_; clear n0_; (try clear hb); (try clear hb2); (try clear hk); (try clear hi)) | (go_at_call 12; (with_reducible refine (dayshiftlaw02_known.calls k2  t166 _ A40.out).mono ?_); rintro e w42 ⟨rfl, hb⟩; have n0_ := Aside0.mk (below_step (by repeat (first | (with_reducible first | exact HB.out | apply below_alloc | apply pw_below_drewN | apply below_drew1) | exact HB.out)) hb); clear HB; have HB := n0_; clear n0_; (try clear hb); (try clear hb2); (try clear hk); (try clear hi)))
                          go_ret
                          exact ⟨by first | rfl | (simp [errW_none, errW_some] <;> rfl) | (simp [*, errW_none, errW_some] <;> rfl), by repeat (first | (with_reducible first | exact HB.out | apply below_alloc | apply pw_below_drewN | apply below_drew1) | exact HB.out)⟩
                        · rw [if_neg c39] at H
                          have c39b0 : decide (52 ≤ t156) = false := decide_eq_false c39
                          clear c39
                          obtain rfl := Option.some.inj H
                          go_wp2_with (first | ((with_reducible refine gate_callee (f := 15) rfl ?_); refine goesL_ (some 74) rfl rfl Try.func15 (by kernel_rfl) rfl #[.int .i64 (wrap64 ((wrap64 (a0 - t152)) + 7))] rfl (by (try simp only [List.map_toArray, List.map_cons, List.map_nil]); first | done | rfl | (simp only [List.length_drop, List.length_take]; rfl)) ?_; (with_reducible refine (week_Week.calls k2 (wrap64 ((wrap64 (a0 - t152)) + 7)) t161 t162 t163 _ A20.out).mono ?_); rintro e w43 ⟨rfl, hb⟩; refine ⟨_, rfl, ?_⟩; have n0_ := Aside0.mk (below_step (by repeat (first | (with_reducible first | exact HB.out | apply below_alloc | apply pw_below_drewN | apply below_drew1) | exact HB.out)) hb); clear HB; have HB := n0_; clear n0_; (try clear hb); (try clear hb2); (try clear hk); (try clear hi)))
                          go_ret
                          exact ⟨by first | rfl | (simp [errW_none, errW_some] <;> rfl) | (simp [*, errW_none, errW_some] <;> rfl), by repeat (first | (with_reducible first | exact HB.out | apply below_alloc | apply pw_below_drewN | apply below_drew1) | exact HB.out)⟩
                      · rw [if_neg c38] at H
                        have c38b0 : (t162 == 1) = false := beq_eq_false_iff_ne.mpr c38
                        have c38b1 : (t162 != 1) = true := bne_iff_ne.mpr c38
                        obtain rfl := Option.some.inj H
                        go_wp2_with (first | ((with_reducible refine gate_callee (f := 15) rfl ?_); refine goesL_ (some 74) rfl rfl Try.func15 (by kernel_rfl) rfl #[.int .i64 (wrap64 ((wrap64 (a0 - t152)) + 7))] rfl (by (try simp only [List.map_toArray, List.map_cons, List.map_nil]); first | done | rfl | (simp only [List.length_drop, List.length_take]; rfl)) ?_; (with_reducible refine (week_Week.calls k2 (wrap64 ((wrap64 (a0 - t152)) + 7)) t161 t162 t163 _ A20.out).mono ?_); rintro e w44 ⟨rfl, hb⟩; refine ⟨_, rfl, ?_⟩; have n0_ := Aside0.mk (below_step (by repeat (first | (with_reducible first | exact HB.out | apply below_alloc | apply pw_below_drewN | apply below_drew1) | exact HB.out)) hb); clear HB; have HB := n0_; clear n0_; (try clear hb); (try clear hb2); (try clear hk); (try clear hi)))
                        go_ret
                        exact ⟨by first | rfl | (simp [errW_none, errW_some] <;> rfl) | (simp [*, errW_none, errW_some] <;> rfl), by repeat (first | (with_reducible first | exact HB.out | apply below_alloc | apply pw_below_drewN | apply below_drew1) | exact HB.out)⟩
                    · rw [if_neg c37] at H
                      have c37b0 : (t161 == (wrap64 (t155 + 1))) = false := beq_eq_false_iff_ne.mpr c37
                      have c37b1 : (t161 != (wrap64 (t155 + 1))) = true := bne_iff_ne.mpr c37
                      obtain rfl := Option.some.inj H
                      go_wp2_with (first | ((with_reducible refine gate_callee (f := 15) rfl ?_); refine goesL_ (some 74) rfl rfl Try.func15 (by kernel_rfl) rfl #[.int .i64 (wrap64 ((wrap64 (a0 - t152)) + 7))] rfl (by (try simp only [List.map_toArray, List.map_cons, List.map_nil]); first | done | rfl | (simp only [List.length_drop, List.length_take]; rfl)) ?_; (with_reducible refine (week_Week.calls k2 (wrap64 ((wrap64 (a0 - t152)) + 7)) t161 t162 t163 _ A20.out).mono ?_); rintro e w45 ⟨rfl, hb⟩; refine ⟨_, rfl, ?_⟩; have n0_ := Aside0.mk (below_step (by repeat (first | (with_reducible first | exact HB.out | apply below_alloc | apply pw_below_drewN | apply below_drew1) | exact HB.out)) hb); clear HB; have HB := n0_; clear n0_; (try clear hb); (try clear hb2); (try clear hk); (try clear hi)))
                      go_ret
                      exact ⟨by first | rfl | (simp [errW_none, errW_some] <;> rfl) | (simp [*, errW_none, errW_some] <;> rfl), by repeat (first | (with_reducible first | exact HB.out | apply below_alloc | apply pw_below_drewN | apply below_drew1) | exact HB.out)⟩
                · rw [if_neg c22] at H
                  have c22b0 : (t163 == 0) = false := beq_eq_false_iff_ne.mpr c22
                  have c22b1 : (t163 != 0) = true := bne_iff_ne.mpr c22
                  obtain rfl := Option.some.inj H
                  go_wp2_with (first | ((with_reducible refine gate_callee (f := 15) rfl ?_); refine goesL_ (some 74) rfl rfl Try.func15 (by kernel_rfl) rfl #[.int .i64 (wrap64 ((wrap64 (a0 - t152)) + 7))] rfl (by (try simp only [List.map_toArray, List.map_cons, List.map_nil]); first | done | rfl | (simp only [List.length_drop, List.length_take]; rfl)) ?_; (with_reducible refine (week_Week.calls k2 (wrap64 ((wrap64 (a0 - t152)) + 7)) t161 t162 t163 _ A20.out).mono ?_); rintro e w46 ⟨rfl, hb⟩; refine ⟨_, rfl, ?_⟩; have n0_ := Aside0.mk (below_step (by repeat (first | (with_reducible first | exact HB.out | apply below_alloc | apply pw_below_drewN | apply below_drew1) | exact HB.out)) hb); clear HB; have HB := n0_; clear n0_; (try clear hb); (try clear hb2); (try clear hk); (try clear hi)))
                  go_ret
                  exact ⟨by first | rfl | (simp [errW_none, errW_some] <;> rfl) | (simp [*, errW_none, errW_some] <;> rfl), by repeat (first | (with_reducible first | exact HB.out | apply below_alloc | apply pw_below_drewN | apply below_drew1) | exact HB.out)⟩
              · rw [if_neg c21] at H
                have c21b0 : (t157 == 0) = false := beq_eq_false_iff_ne.mpr c21
                have c21b1 : (t157 != 0) = true := bne_iff_ne.mpr c21
                obtain rfl := Option.some.inj H
                go_wp2_with (first | ((with_reducible refine gate_callee (f := 15) rfl ?_); refine goesL_ (some 74) rfl rfl Try.func15 (by kernel_rfl) rfl #[.int .i64 (wrap64 ((wrap64 (a0 - t152)) + 7))] rfl (by (try simp only [List.map_toArray, List.map_cons, List.map_nil]); first | done | rfl | (simp only [List.length_drop, List.length_take]; rfl)) ?_; (with_reducible refine (week_Week.calls k2 (wrap64 ((wrap64 (a0 - t152)) + 7)) t161 t162 t163 _ A20.out).mono ?_); rintro e w47 ⟨rfl, hb⟩; refine ⟨_, rfl, ?_⟩; have n0_ := Aside0.mk (below_step (by repeat (first | (with_reducible first | exact HB.out | apply below_alloc | apply pw_below_drewN | apply below_drew1) | exact HB.out)) hb); clear HB; have HB := n0_; clear n0_; (try clear hb); (try clear hb2); (try clear hk); (try clear hi)))
                go_ret
                exact ⟨by first | rfl | (simp [errW_none, errW_some] <;> rfl) | (simp [*, errW_none, errW_some] <;> rfl), by repeat (first | (with_reducible first | exact HB.out | apply below_alloc | apply pw_below_drewN | apply below_drew1) | exact HB.out)⟩

/-- THE ONE PURE STATEMENT of dayshiftlaw02_WeekRuns: yours. -/
def dayshiftlaw02_WeekRuns.Pure : Prop := ∀ (a0 : Int), (Lit.int .i64 a0).wf = true → ∃ k, dayshiftlaw02_WeekRuns.f k a0 = some true
theorem dayshiftlaw02_WeekRuns.walk (P : dayshiftlaw02_WeekRuns.Pure) (a0 : Int) (w : World) (w0 : (Lit.int .i64 a0).wf = true) :
    Calls Try.prog 5 #[.int .i64 a0] w fun e w' => e = .returned (.bool true) ∧ Below w.heap.size w w' := by
  obtain ⟨k, h⟩ := P a0 w0
  refine (dayshiftlaw02_WeekRuns.calls k a0 true w h).mono ?_
  rintro e w' ⟨rfl, hd⟩
  exact ⟨rfl, hd⟩

end Go.Proofs.Ytjfghphblgkoiaa.PWeekRuns
