/- This text holds, for Go functions of the given program, Lean functions with the same answers, and proofs that the machine's calls come to these answers; each theorem names its own conditions. It was laid by a program of this session. -/
import Derived.Test.YtjfghphblgkoiaaPWeekClocksx0
import Derived.Test.YtjfghphblgkoiaaPWeekClocksx1
import Derived.Test.YtjfghphblgkoiaaPWeekClocksx3
namespace Go.Proofs.Ytjfghphblgkoiaa.PWeekClocks
open Go.RowKit Go.Proofs.YtjfghphblgkoiaaW.PrintWords Go.Proofs.YtjfghphblgkoiaaW.PrintLast Go.Proofs.YtjfghphblgkoiaaW.PrintMore
attribute [local go_sem] max2_int min2_int max_two min_two max_three min_three max_four min_four   -- for this text's walks alone
set_option linter.unusedVariables false
set_option linter.unusedSimpArgs false

/-! ### dayshiftref01_Right: function 37 -/
def dayshiftref01_Right.f (a0 : Int) : Option (Bool) := if a0 ≥ 1 then (some (decide (a0 ≤ 3652059))) else (some false)
set_option maxHeartbeats 8000000 in
set_option maxRecDepth 100000 in
theorem dayshiftref01_Right.calls (a0 : Int) (r : Bool) (w : World) (h : dayshiftref01_Right.f a0 = some r) :
    Calls Try.prog 37 #[.int .i64 a0] w fun e w' => e = .returned (.bool r) ∧ Drawn0 w w' := by
  have H : (if a0 ≥ 1 then (some (decide (a0 ≤ 3652059))) else (some false)) = some r := h
  clear h
  by_cases c2 : a0 ≥ 1
  · rw [if_pos c2] at H
    have c2b0 : decide (1 ≤ a0) = true := decide_eq_true c2
    clear c2
    obtain rfl := Option.some.inj H
    go_enter Try.func37, Try.ntmps37
    go_wp2
    go_ret
    exact ⟨by first | rfl | (simp; done) | (simp [*]; done), by repeat (first | exact Drawn0.refl _ | apply Drawn0.step)⟩
  · rw [if_neg c2] at H
    have c2b0 : decide (1 ≤ a0) = false := decide_eq_false c2
    clear c2
    obtain rfl := Option.some.inj H
    go_enter Try.func37, Try.ntmps37
    go_wp2
    go_ret
    exact ⟨by first | rfl | (simp; done) | (simp [*]; done), by repeat (first | exact Drawn0.refl _ | apply Drawn0.step)⟩

/-! ### dayshiftref02_Right: function 39 -/
def dayshiftref02_Right.f (a0 : Int) : Option (Bool) := if a0 ≥ 0 then (some (decide (a0 < 1440))) else (some false)
set_option maxHeartbeats 8000000 in
set_option maxRecDepth 100000 in
theorem dayshiftref02_Right.calls (a0 : Int) (r : Bool) (w : World) (h : dayshiftref02_Right.f a0 = some r) :
    Calls Try.prog 39 #[.int .i64 a0] w fun e w' => e = .returned (.bool r) ∧ Drawn0 w w' := by
  have H : (if a0 ≥ 0 then (some (decide (a0 < 1440))) else (some false)) = some r := h
  clear h
  by_cases c2 : a0 ≥ 0
  · rw [if_pos c2] at H
    have c2b0 : decide (0 ≤ a0) = true := decide_eq_true c2
    clear c2
    obtain rfl := Option.some.inj H
    go_enter Try.func39, Try.ntmps39
    go_wp2
    go_ret
    exact ⟨by first | rfl | (simp; done) | (simp [*]; done), by repeat (first | exact Drawn0.refl _ | apply Drawn0.step)⟩
  · rw [if_neg c2] at H
    have c2b0 : decide (0 ≤ a0) = false := decide_eq_false c2
    clear c2
    obtain rfl := Option.some.inj H
    go_enter Try.func39, Try.ntmps39
    go_wp2
    go_ret
    exact ⟨by first | rfl | (simp; done) | (simp [*]; done), by repeat (first | exact Drawn0.refl _ | apply Drawn0.step)⟩

/-! ### dayshiftref02_Order: function 22 -/
def dayshiftref02_Order.j0 : Nat → Int → Int → Int → Bool → Option (Int × Int)
  | 0, _, _, _, _ => none
  | k + 1, x1, x6, x7, x21 => if x21 = true then (some (0, 6)) else (if x7 < x1 then ((dayshiftref01_Right.f (wrap64 (x6 - 1))).bind fun t155 => (if t155 = true then (some (wrap64 (x6 - 1), 0)) else (some (0, 6)))) else ((dayshiftref01_Right.f x6).bind fun t156 => (if t156 = true then (some (x6, 0)) else (some (0, 6)))))
def dayshiftref02_Order.f (k : Nat) (a0 : Int) (a1 : Int) : Option (Int × Int) := (dayshiftref02_Split.f a0).bind fun bt151 => (if bt151.2.2 = 0 then ((dayshiftref02_Right.f a1).bind fun t154 => (dayshiftref02_Order.j0 k a1 bt151.1 bt151.2.1 (!t154))) else (dayshiftref02_Order.j0 k a1 bt151.1 bt151.2.1 true))
theorem dayshiftref02_Order.mono_l : ∀ k, (∀ y0 y1 y2 y3, LeO (dayshiftref02_Order.j0 k y0 y1 y2 y3) (dayshiftref02_Order.j0 (k + 1) y0 y1 y2 y3))
  | 0 => fun _ _ _ _ r h => by simp [dayshiftref02_Order.j0] at h
  | k + 1 => by
    have ih0 := dayshiftref02_Order.mono_l k
    · intro y0 y1 y2 y3
      unfold dayshiftref02_Order.j0
      repeat' first
      | (with_reducible exact ih0 _ _ _ _)
      | (with_reducible exact LeO.refl _)
      | (with_reducible exact LeO.none _)
      | (with_reducible refine LeO.ite ?_ ?_)
      | (with_reducible refine LeO.bind ?_ (fun _ => ?_))
      | exact ih0 _ _ _ _
      | exact LeO.none _
      | refine LeO.ite ?_ ?_
      | refine LeO.bind ?_ (fun _ => ?_)
theorem dayshiftref02_Order.mono : ∀ a0 a1 k, LeO (dayshiftref02_Order.f k a0 a1) (dayshiftref02_Order.f (k + 1) a0 a1) := by
  intro a0 a1 k
  have ih0 := dayshiftref02_Order.mono_l k
  unfold dayshiftref02_Order.f
  repeat' first
      | (with_reducible exact ih0 _ _ _ _)
      | (with_reducible exact LeO.refl _)
      | (with_reducible exact LeO.none _)
      | (with_reducible refine LeO.ite ?_ ?_)
      | (with_reducible refine LeO.bind ?_ (fun _ => ?_))
      | exact ih0 _ _ _ _
      | exact LeO.none _
      | refine LeO.ite ?_ ?_
      | refine LeO.bind ?_ (fun _ => ?_)
set_option maxHeartbeats 8000000 in
set_option maxRecDepth 100000 in
theorem dayshiftref02_Order.calls (k : Nat) (a0 : Int) (a1 : Int) (r1 : Int) (r2 : Int) (w : World) (h : dayshiftref02_Order.f k a0 a1 = some (r1, r2)) :
    Calls Try.prog 22 #[.int .i64 a0, .int .i64 a1] w fun e w' => e = .returned (.tuple #[.int .i64 r1, .int .i64 r2]) ∧ Drawn0 w w' := by
  have H : ((dayshiftref02_Split.f a0).bind fun bt151 => (if bt151.2.2 = 0 then ((dayshiftref02_Right.f a1).bind fun t154 => (dayshiftref02_Order.j0 k a1 bt151.1 bt151.2.1 (!t154))) else (dayshiftref02_Order.j0 k a1 bt151.1 bt151.2.1 true))) = some (r1, r2) := h
  clear h
  replace H := Option.bind_eq_some_iff.mp H
  obtain ⟨⟨t151, t152, t153⟩, A30, H⟩ := H
  replace H : (if t153 = 0 then ((dayshiftref02_Right.f a1).bind fun t154 => (dayshiftref02_Order.j0 k a1 t151 t152 (!t154))) else (dayshiftref02_Order.j0 k a1 t151 t152 true)) = some (r1, r2) := H
  have A3 := Aside0.mk A30
  clear A30
  have HC4 := Aside0.mk H
  clear H
  go_enter Try.func22, Try.ntmps22
  go_upto_region 2 with (first | ((with_reducible refine gate_callee (f := 21) rfl ?_); refine goesL_ (some 11) rfl rfl Try.func21 (by kernel_rfl) rfl #[.int .i64 a0] rfl (by (try simp only [List.map_toArray, List.map_cons, List.map_nil]); first | done | rfl | (simp only [List.length_drop, List.length_take]; rfl)) ?_; (with_reducible refine (dayshiftref02_Split.calls a0 t151 t152 t153 _ A3.out).mono ?_); rintro e w' ⟨rfl, ⟨nd, rfl⟩⟩; refine ⟨_, rfl, ?_⟩))
  (try simp only [Act.put, List.setIfInBounds_toArray, List.set_cons_zero, List.set_cons_succ])
  go_cut [21] (fun v21 wc => ∃ (kq : Nat) (x21_3 : Bool), v21 = .bool x21_3 ∧ Aside0 (dayshiftref02_Order.j0 kq a1 t151 t152 x21_3 = some (r1, r2)) ∧ Aside0 (kq ≤ k) ∧ Drawn0 w wc)
  case first =>
    have H := HC4.out
    clear HC4
    by_cases c5 : t153 = 0
    · rw [if_pos c5] at H
      have c5b0 : (t153 == 0) = true := beq_iff_eq.mpr c5
      have c5b1 : (t153 != 0) = false := bne_eq_false_iff_eq.mpr c5
      clear c5
      (first | rw [c5b0] | (simp only [i64_w, i32_w]; rw [c5b0]) | skip)
      replace H := Option.bind_eq_some_iff.mp H
      obtain ⟨t154, A60, H⟩ := H
      replace H : (dayshiftref02_Order.j0 k a1 t151 t152 (!t154)) = some (r1, r2) := H
      have A6 := Aside0.mk A60
      clear A60
      have H' := Aside0.mk H
      clear H
      go_wp2_with (first | (go_at_call 39; (with_reducible refine (dayshiftref02_Right.calls a1 t154 _ A6.out).mono ?_); rintro e w' ⟨rfl, ⟨nd, rfl⟩⟩))
      go_meet
      case rel => exact ⟨_, (!t154), (by first | rfl | (simp; done) | (simp [*]; done)), H', ⟨by first | omega | exact Nat.le_refl _⟩, by repeat (first | exact Drawn0.refl _ | apply Drawn0.step)⟩
    · rw [if_neg c5] at H
      have c5b0 : (t153 == 0) = false := beq_eq_false_iff_ne.mpr c5
      have c5b1 : (t153 != 0) = true := bne_iff_ne.mpr c5
      (first | rw [c5b0] | (simp only [i64_w, i32_w]; rw [c5b0]) | skip)
      have H' := Aside0.mk H
      clear H
      go_wp2
      go_meet
      case rel => exact ⟨_, (true), (by first | rfl | (simp; done) | (simp [*]; done)), H', ⟨by first | omega | exact Nat.le_refl _⟩, by repeat (first | exact Drawn0.refl _ | apply Drawn0.step)⟩
  case rest =>
    clear HC4
    try clear c2
    try clear p2
    try clear c5
    try clear c5b0
    try clear c5b1
    obtain ⟨kq, x21_3, rfl, HA, HJ3, ⟨mc3, rfl⟩⟩ := hcut
    cases kq with
    | zero => exact absurd HA.out (by simp [dayshiftref02_Order.j0])
    | succ kj3 =>
      have H := HA.out
      clear HA
      simp only [dayshiftref02_Order.j0] at H
      by_cases c7 : x21_3 = true
      · subst c7
        have H1 : (some (0, 6)) = some (r1, r2) := by rw [if_pos rfl] at H; exact H
        clear H
        have H := H1
        clear H1
        simp only [Option.some.injEq, Prod.mk.injEq] at H
        obtain ⟨rfl, rfl⟩ := H
        go_wp2
        go_ret2
        exact ⟨by first | rfl | (simp; done) | (simp [*]; done), by repeat (first | exact Drawn0.refl _ | apply Drawn0.step)⟩
      · replace c7 := Bool.eq_false_iff.mpr c7
        subst c7
        have H1 : (if t152 < a1 then ((dayshiftref01_Right.f (wrap64 (t151 - 1))).bind fun t155 => (if t155 = true then (some (wrap64 (t151 - 1), 0)) else (some (0, 6)))) else ((dayshiftref01_Right.f t151).bind fun t156 => (if t156 = true then (some (t151, 0)) else (some (0, 6))))) = some (r1, r2) := by rw [if_neg (show ¬ (false = true) by decide)] at H; exact H
        clear H
        have H := H1
        clear H1
        by_cases c8 : t152 < a1
        · rw [if_pos c8] at H
          have c8b0 : decide (t152 < a1) = true := decide_eq_true c8
          clear c8
          replace H := Option.bind_eq_some_iff.mp H
          obtain ⟨t155, A90, H⟩ := H
          replace H : (if t155 = true then (some (wrap64 (t151 - 1), 0)) else (some (0, 6))) = some (r1, r2) := H
          have A9 := Aside0.mk A90
          clear A90
          by_cases c10 : t155 = true
          · subst c10
            have H1 : (some (wrap64 (t151 - 1), 0)) = some (r1, r2) := by rw [if_pos rfl] at H; exact H
            clear H
            have H := H1
            clear H1
            simp only [Option.some.injEq, Prod.mk.injEq] at H
            obtain ⟨rfl, rfl⟩ := H
            go_wp2_with (first | ((with_reducible refine gate_callee (f := 37) rfl ?_); refine goesL_ (some 28) rfl rfl Try.func37 (by kernel_rfl) rfl #[.int .i64 (wrap64 (t151 - 1))] rfl (by (try simp only [List.map_toArray, List.map_cons, List.map_nil]); first | done | rfl | (simp only [List.length_drop, List.length_take]; rfl)) ?_; (with_reducible refine (dayshiftref01_Right.calls (wrap64 (t151 - 1)) true _ A9.out).mono ?_); rintro e w' ⟨rfl, ⟨nd, rfl⟩⟩; refine ⟨_, rfl, ?_⟩))
            go_ret2
            exact ⟨by first | rfl | (simp; done) | (simp [*]; done), by repeat (first | exact Drawn0.refl _ | apply Drawn0.step)⟩
          · replace c10 := Bool.eq_false_iff.mpr c10
            subst c10
            have H1 : (some (0, 6)) = some (r1, r2) := by rw [if_neg (show ¬ (false = true) by decide)] at H; exact H
            clear H
            have H := H1
            clear H1
            simp only [Option.some.injEq, Prod.mk.injEq] at H
            obtain ⟨rfl, rfl⟩ := H
            go_wp2_with (first | ((with_reducible refine gate_callee (f := 37) rfl ?_); refine goesL_ (some 28) rfl rfl Try.func37 (by kernel_rfl) rfl #[.int .i64 (wrap64 (t151 - 1))] rfl (by (try simp only [List.map_toArray, List.map_cons, List.map_nil]); first | done | rfl | (simp only [List.length_drop, List.length_take]; rfl)) ?_; (with_reducible refine (dayshiftref01_Right.calls (wrap64 (t151 - 1)) false _ A9.out).mono ?_); rintro e w' ⟨rfl, ⟨nd, rfl⟩⟩; refine ⟨_, rfl, ?_⟩))
            go_ret2
            exact ⟨by first | rfl | (simp; done) | (simp [*]; done), by repeat (first | exact Drawn0.refl _ | apply Drawn0.step)⟩
        · rw [if_neg c8] at H
          have c8b0 : decide (t152 < a1) = false := decide_eq_false c8
          clear c8
          replace H := Option.bind_eq_some_iff.mp H
          obtain ⟨t156, A110, H⟩ := H
          replace H : (if t156 = true then (some (t151, 0)) else (some (0, 6))) = some (r1, r2) := H
          have A11 := Aside0.mk A110
          clear A110
          by_cases c12 : t156 = true
          · subst c12
            have H1 : (some (t151, 0)) = some (r1, r2) := by rw [if_pos rfl] at H; exact H
            clear H
            have H := H1
            clear H1
            simp only [Option.some.injEq, Prod.mk.injEq] at H
            obtain ⟨rfl, rfl⟩ := H
            go_wp2_with (first | ((with_reducible refine gate_callee (f := 37) rfl ?_); refine goesL_ (some 28) rfl rfl Try.func37 (by kernel_rfl) rfl #[.int .i64 t151] rfl (by (try simp only [List.map_toArray, List.map_cons, List.map_nil]); first | done | rfl | (simp only [List.length_drop, List.length_take]; rfl)) ?_; (with_reducible refine (dayshiftref01_Right.calls t151 true _ A11.out).mono ?_); rintro e w' ⟨rfl, ⟨nd, rfl⟩⟩; refine ⟨_, rfl, ?_⟩))
            go_ret2
            exact ⟨by first | rfl | (simp; done) | (simp [*]; done), by repeat (first | exact Drawn0.refl _ | apply Drawn0.step)⟩
          · replace c12 := Bool.eq_false_iff.mpr c12
            subst c12
            have H1 : (some (0, 6)) = some (r1, r2) := by rw [if_neg (show ¬ (false = true) by decide)] at H; exact H
            clear H
            have H := H1
            clear H1
            simp only [Option.some.injEq, Prod.mk.injEq] at H
            obtain ⟨rfl, rfl⟩ := H
            go_wp2_with (first | ((with_reducible refine gate_callee (f := 37) rfl ?_); refine goesL_ (some 28) rfl rfl Try.func37 (by kernel_rfl) rfl #[.int .i64 t151] rfl (by (try simp only [List.map_toArray, List.map_cons, List.map_nil]); first | done | rfl | (simp only [List.length_drop, List.length_take]; rfl)) ?_; (with_reducible refine (dayshiftref01_Right.calls t151 false _ A11.out).mono ?_); rintro e w' ⟨rfl, ⟨nd, rfl⟩⟩; refine ⟨_, rfl, ?_⟩))
            go_ret2
            exact ⟨by first | rfl | (simp; done) | (simp [*]; done), by repeat (first | exact Drawn0.refl _ | apply Drawn0.step)⟩

/-! ### week_Join: function 23 -/
def week_Join.f (a0 : Int) (a1 : Int) : Option (Int × Int) := (date_Right.f a0).bind fun t157 => (if t157 = true then ((week_right.f a1).bind fun t158 => (if t158 = true then (some (wrap64 ((wrap64 (a0 * 1440)) + a1), 0)) else (some (0, 6)))) else (some (0, 6)))
set_option maxHeartbeats 8000000 in
set_option maxRecDepth 100000 in
theorem week_Join.calls (a0 : Int) (a1 : Int) (r1 : Int) (r2 : Int) (w : World) (h : week_Join.f a0 a1 = some (r1, r2)) :
    Calls Try.prog 23 #[.int .i64 a0, .int .i64 a1] w fun e w' => e = .returned (.tuple #[.int .i64 r1, .int .i64 r2]) ∧ Drawn0 w w' := by
  have H : ((date_Right.f a0).bind fun t157 => (if t157 = true then ((week_right.f a1).bind fun t158 => (if t158 = true then (some (wrap64 ((wrap64 (a0 * 1440)) + a1), 0)) else (some (0, 6)))) else (some (0, 6)))) = some (r1, r2) := h
  clear h
  replace H := Option.bind_eq_some_iff.mp H
  obtain ⟨t157, A30, H⟩ := H
  replace H : (if t157 = true then ((week_right.f a1).bind fun t158 => (if t158 = true then (some (wrap64 ((wrap64 (a0 * 1440)) + a1), 0)) else (some (0, 6)))) else (some (0, 6))) = some (r1, r2) := H
  have A3 := Aside0.mk A30
  clear A30
  by_cases c4 : t157 = true
  · subst c4
    have H1 : ((week_right.f a1).bind fun t158 => (if t158 = true then (some (wrap64 ((wrap64 (a0 * 1440)) + a1), 0)) else (some (0, 6)))) = some (r1, r2) := by rw [if_pos rfl] at H; exact H
    clear H
    have H := H1
    clear H1
    replace H := Option.bind_eq_some_iff.mp H
    obtain ⟨t158, A50, H⟩ := H
    replace H : (if t158 = true then (some (wrap64 ((wrap64 (a0 * 1440)) + a1), 0)) else (some (0, 6))) = some (r1, r2) := H
    have A5 := Aside0.mk A50
    clear A50
    by_cases c6 : t158 = true
    · subst c6
      have H1 : (some (wrap64 ((wrap64 (a0 * 1440)) + a1), 0)) = some (r1, r2) := by rw [if_pos rfl] at H; exact H
      clear H
      have H := H1
      clear H1
      simp only [Option.some.injEq, Prod.mk.injEq] at H
      obtain ⟨rfl, rfl⟩ := H
      go_enter Try.func23, Try.ntmps23
      go_wp2_with (first | ((with_reducible refine gate_callee (f := 42) rfl ?_); refine goesL_ (some 7) rfl rfl Try.func42 (by kernel_rfl) rfl #[.int .i64 a0] rfl (by (try simp only [List.map_toArray, List.map_cons, List.map_nil]); first | done | rfl | (simp only [List.length_drop, List.length_take]; rfl)) ?_; (with_reducible refine (date_Right.calls a0 true _ A3.out).mono ?_); rintro e w' ⟨rfl, ⟨nd, rfl⟩⟩; refine ⟨_, rfl, ?_⟩) | (go_at_call 36; (with_reducible refine (week_right.calls a1 true _ A5.out).mono ?_); rintro e w' ⟨rfl, ⟨nd, rfl⟩⟩))
      go_ret2
      exact ⟨by first | rfl | (simp; done) | (simp [*]; done), by repeat (first | exact Drawn0.refl _ | apply Drawn0.step)⟩
    · replace c6 := Bool.eq_false_iff.mpr c6
      subst c6
      have H1 : (some (0, 6)) = some (r1, r2) := by rw [if_neg (show ¬ (false = true) by decide)] at H; exact H
      clear H
      have H := H1
      clear H1
      simp only [Option.some.injEq, Prod.mk.injEq] at H
      obtain ⟨rfl, rfl⟩ := H
      go_enter Try.func23, Try.ntmps23
      go_wp2_with (first | ((with_reducible refine gate_callee (f := 42) rfl ?_); refine goesL_ (some 7) rfl rfl Try.func42 (by kernel_rfl) rfl #[.int .i64 a0] rfl (by (try simp only [List.map_toArray, List.map_cons, List.map_nil]); first | done | rfl | (simp only [List.length_drop, List.length_take]; rfl)) ?_; (with_reducible refine (date_Right.calls a0 true _ A3.out).mono ?_); rintro e w' ⟨rfl, ⟨nd, rfl⟩⟩; refine ⟨_, rfl, ?_⟩) | (go_at_call 36; (with_reducible refine (week_right.calls a1 false _ A5.out).mono ?_); rintro e w' ⟨rfl, ⟨nd, rfl⟩⟩))
      go_ret2
      exact ⟨by first | rfl | (simp; done) | (simp [*]; done), by repeat (first | exact Drawn0.refl _ | apply Drawn0.step)⟩
  · replace c4 := Bool.eq_false_iff.mpr c4
    subst c4
    have H1 : (some (0, 6)) = some (r1, r2) := by rw [if_neg (show ¬ (false = true) by decide)] at H; exact H
    clear H
    have H := H1
    clear H1
    simp only [Option.some.injEq, Prod.mk.injEq] at H
    obtain ⟨rfl, rfl⟩ := H
    go_enter Try.func23, Try.ntmps23
    go_wp2_with (first | ((with_reducible refine gate_callee (f := 42) rfl ?_); refine goesL_ (some 7) rfl rfl Try.func42 (by kernel_rfl) rfl #[.int .i64 a0] rfl (by (try simp only [List.map_toArray, List.map_cons, List.map_nil]); first | done | rfl | (simp only [List.length_drop, List.length_take]; rfl)) ?_; (with_reducible refine (date_Right.calls a0 false _ A3.out).mono ?_); rintro e w' ⟨rfl, ⟨nd, rfl⟩⟩; refine ⟨_, rfl, ?_⟩))
    go_ret2
    exact ⟨by first | rfl | (simp; done) | (simp [*]; done), by repeat (first | exact Drawn0.refl _ | apply Drawn0.step)⟩

/-! ### dayshiftref02_Join: function 24 -/
def dayshiftref02_Join.f (a0 : Int) (a1 : Int) : Option (Int × Int) := (dayshiftref01_Right.f a0).bind fun t159 => (if t159 = true then ((dayshiftref02_Right.f a1).bind fun t160 => (if t160 = true then (some (wrap64 ((wrap64 (a0 * 1440)) + a1), 0)) else (some (0, 6)))) else (some (0, 6)))
set_option maxHeartbeats 8000000 in
set_option maxRecDepth 100000 in
theorem dayshiftref02_Join.calls (a0 : Int) (a1 : Int) (r1 : Int) (r2 : Int) (w : World) (h : dayshiftref02_Join.f a0 a1 = some (r1, r2)) :
    Calls Try.prog 24 #[.int .i64 a0, .int .i64 a1] w fun e w' => e = .returned (.tuple #[.int .i64 r1, .int .i64 r2]) ∧ Drawn0 w w' := by
  have H : ((dayshiftref01_Right.f a0).bind fun t159 => (if t159 = true then ((dayshiftref02_Right.f a1).bind fun t160 => (if t160 = true then (some (wrap64 ((wrap64 (a0 * 1440)) + a1), 0)) else (some (0, 6)))) else (some (0, 6)))) = some (r1, r2) := h
  clear h
  replace H := Option.bind_eq_some_iff.mp H
  obtain ⟨t159, A30, H⟩ := H
  replace H : (if t159 = true then ((dayshiftref02_Right.f a1).bind fun t160 => (if t160 = true then (some (wrap64 ((wrap64 (a0 * 1440)) + a1), 0)) else (some (0, 6)))) else (some (0, 6))) = some (r1, r2) := H
  have A3 := Aside0.mk A30
  clear A30
  by_cases c4 : t159 = true
  · subst c4
    have H1 : ((dayshiftref02_Right.f a1).bind fun t160 => (if t160 = true then (some (wrap64 ((wrap64 (a0 * 1440)) + a1), 0)) else (some (0, 6)))) = some (r1, r2) := by rw [if_pos rfl] at H; exact H
    clear H
    have H := H1
    clear H1
    replace H := Option.bind_eq_some_iff.mp H
    obtain ⟨t160, A50, H⟩ := H
    replace H : (if t160 = true then (some (wrap64 ((wrap64 (a0 * 1440)) + a1), 0)) else (some (0, 6))) = some (r1, r2) := H
    have A5 := Aside0.mk A50
    clear A50
    by_cases c6 : t160 = true
    · subst c6
      have H1 : (some (wrap64 ((wrap64 (a0 * 1440)) + a1), 0)) = some (r1, r2) := by rw [if_pos rfl] at H; exact H
      clear H
      have H := H1
      clear H1
      simp only [Option.some.injEq, Prod.mk.injEq] at H
      obtain ⟨rfl, rfl⟩ := H
      go_enter Try.func24, Try.ntmps24
      go_wp2_with (first | ((with_reducible refine gate_callee (f := 37) rfl ?_); refine goesL_ (some 7) rfl rfl Try.func37 (by kernel_rfl) rfl #[.int .i64 a0] rfl (by (try simp only [List.map_toArray, List.map_cons, List.map_nil]); first | done | rfl | (simp only [List.length_drop, List.length_take]; rfl)) ?_; (with_reducible refine (dayshiftref01_Right.calls a0 true _ A3.out).mono ?_); rintro e w' ⟨rfl, ⟨nd, rfl⟩⟩; refine ⟨_, rfl, ?_⟩) | (go_at_call 39; (with_reducible refine (dayshiftref02_Right.calls a1 true _ A5.out).mono ?_); rintro e w' ⟨rfl, ⟨nd, rfl⟩⟩))
      go_ret2
      exact ⟨by first | rfl | (simp; done) | (simp [*]; done), by repeat (first | exact Drawn0.refl _ | apply Drawn0.step)⟩
    · replace c6 := Bool.eq_false_iff.mpr c6
      subst c6
      have H1 : (some (0, 6)) = some (r1, r2) := by rw [if_neg (show ¬ (false = true) by decide)] at H; exact H
      clear H
      have H := H1
      clear H1
      simp only [Option.some.injEq, Prod.mk.injEq] at H
      obtain ⟨rfl, rfl⟩ := H
      go_enter Try.func24, Try.ntmps24
      go_wp2_with (first | ((with_reducible refine gate_callee (f := 37) rfl ?_); refine goesL_ (some 7) rfl rfl Try.func37 (by kernel_rfl) rfl #[.int .i64 a0] rfl (by (try simp only [List.map_toArray, List.map_cons, List.map_nil]); first | done | rfl | (simp only [List.length_drop, List.length_take]; rfl)) ?_; (with_reducible refine (dayshiftref01_Right.calls a0 true _ A3.out).mono ?_); rintro e w' ⟨rfl, ⟨nd, rfl⟩⟩; refine ⟨_, rfl, ?_⟩) | (go_at_call 39; (with_reducible refine (dayshiftref02_Right.calls a1 false _ A5.out).mono ?_); rintro e w' ⟨rfl, ⟨nd, rfl⟩⟩))
      go_ret2
      exact ⟨by first | rfl | (simp; done) | (simp [*]; done), by repeat (first | exact Drawn0.refl _ | apply Drawn0.step)⟩
  · replace c4 := Bool.eq_false_iff.mpr c4
    subst c4
    have H1 : (some (0, 6)) = some (r1, r2) := by rw [if_neg (show ¬ (false = true) by decide)] at H; exact H
    clear H
    have H := H1
    clear H1
    simp only [Option.some.injEq, Prod.mk.injEq] at H
    obtain ⟨rfl, rfl⟩ := H
    go_enter Try.func24, Try.ntmps24
    go_wp2_with (first | ((with_reducible refine gate_callee (f := 37) rfl ?_); refine goesL_ (some 7) rfl rfl Try.func37 (by kernel_rfl) rfl #[.int .i64 a0] rfl (by (try simp only [List.map_toArray, List.map_cons, List.map_nil]); first | done | rfl | (simp only [List.length_drop, List.length_take]; rfl)) ?_; (with_reducible refine (dayshiftref01_Right.calls a0 false _ A3.out).mono ?_); rintro e w' ⟨rfl, ⟨nd, rfl⟩⟩; refine ⟨_, rfl, ?_⟩))
    go_ret2
    exact ⟨by first | rfl | (simp; done) | (simp [*]; done), by repeat (first | exact Drawn0.refl _ | apply Drawn0.step)⟩

/-! ### dayshiftlaw02_WeekClocks: function 8 -/
def dayshiftlaw02_WeekClocks.j0 : Nat → Int → Int → Int → Int → Bool → Option (Bool)
  | 0, _, _, _, _, _ => none
  | k + 1, x0, x9, x10, x11, x93 => if x93 = true then (some false) else (if x11 = 0 then ((week_Join.f x9 x10).bind fun bt175 => (if bt175.1 = x0 then (if bt175.2 = 0 then ((dayshiftlaw02_known.f k).bind fun t177 => (some t177)) else (some false)) else (some false))) else ((dayshiftlaw02_known.f k).bind fun t178 => (some t178)))
def dayshiftlaw02_WeekClocks.f (k : Nat) (a0 : Int) (a1 : Int) (a2 : Int) (a3 : Int) : Option (Bool) := (week_Split.f a0).bind fun bt161 => ((dayshiftref02_Split.f a0).bind fun bt164 => ((week_Order.f a0 a1).bind fun bt167 => ((dayshiftref02_Order.f k a0 a1).bind fun bt169 => ((week_Join.f a2 a3).bind fun bt171 => ((dayshiftref02_Join.f a2 a3).bind fun bt173 => (if bt161.1 = bt164.1 then (if bt161.2.1 = bt164.2.1 then (if bt161.2.2 = bt164.2.2 then (if bt167.1 = bt169.1 then (if bt167.2 = bt169.2 then (if bt171.1 = bt173.1 then (dayshiftlaw02_WeekClocks.j0 k a0 bt161.1 bt161.2.1 bt161.2.2 (bt171.2 != bt173.2)) else (dayshiftlaw02_WeekClocks.j0 k a0 bt161.1 bt161.2.1 bt161.2.2 true)) else (dayshiftlaw02_WeekClocks.j0 k a0 bt161.1 bt161.2.1 bt161.2.2 true)) else (dayshiftlaw02_WeekClocks.j0 k a0 bt161.1 bt161.2.1 bt161.2.2 true)) else (dayshiftlaw02_WeekClocks.j0 k a0 bt161.1 bt161.2.1 bt161.2.2 true)) else (dayshiftlaw02_WeekClocks.j0 k a0 bt161.1 bt161.2.1 bt161.2.2 true)) else (dayshiftlaw02_WeekClocks.j0 k a0 bt161.1 bt161.2.1 bt161.2.2 true)))))))
theorem dayshiftlaw02_WeekClocks.mono_l : ∀ k, (∀ y0 y1 y2 y3 y4, LeO (dayshiftlaw02_WeekClocks.j0 k y0 y1 y2 y3 y4) (dayshiftlaw02_WeekClocks.j0 (k + 1) y0 y1 y2 y3 y4))
  | 0 => fun _ _ _ _ _ r h => by simp [dayshiftlaw02_WeekClocks.j0] at h
  | k + 1 => by
    have ih0 := dayshiftlaw02_WeekClocks.mono_l k
    · intro y0 y1 y2 y3 y4
      unfold dayshiftlaw02_WeekClocks.j0
      repeat' first
      | (with_reducible exact ih0 _ _ _ _ _)
      | (with_reducible exact dayshiftlaw02_known.mono _)
      | (with_reducible exact dayshiftref02_Order.mono _ _ _)
      | (with_reducible exact LeO.refl _)
      | (with_reducible exact LeO.none _)
      | (with_reducible refine LeO.ite ?_ ?_)
      | (with_reducible refine LeO.bind ?_ (fun _ => ?_))
      | exact ih0 _ _ _ _ _
      | exact dayshiftlaw02_known.mono _
      | exact dayshiftref02_Order.mono _ _ _
      | exact LeO.none _
      | refine LeO.ite ?_ ?_
      | refine LeO.bind ?_ (fun _ => ?_)
theorem dayshiftlaw02_WeekClocks.mono : ∀ a0 a1 a2 a3 k, LeO (dayshiftlaw02_WeekClocks.f k a0 a1 a2 a3) (dayshiftlaw02_WeekClocks.f (k + 1) a0 a1 a2 a3) := by
  intro a0 a1 a2 a3 k
  have ih0 := dayshiftlaw02_WeekClocks.mono_l k
  unfold dayshiftlaw02_WeekClocks.f
  repeat' first
      | (with_reducible exact ih0 _ _ _ _ _)
      | (with_reducible exact dayshiftlaw02_known.mono _)
      | (with_reducible exact dayshiftref02_Order.mono _ _ _)
      | (with_reducible exact LeO.refl _)
      | (with_reducible exact LeO.none _)
      | (with_reducible refine LeO.ite ?_ ?_)
      | (with_reducible refine LeO.bind ?_ (fun _ => ?_))
      | exact ih0 _ _ _ _ _
      | exact dayshiftlaw02_known.mono _
      | exact dayshiftref02_Order.mono _ _ _
      | exact LeO.none _
      | refine LeO.ite ?_ ?_
      | refine LeO.bind ?_ (fun _ => ?_)
set_option maxHeartbeats 8000000 in
set_option maxRecDepth 100000 in
theorem dayshiftlaw02_WeekClocks.calls (k : Nat) (a0 : Int) (a1 : Int) (a2 : Int) (a3 : Int) (r : Bool) (w : World) (h : dayshiftlaw02_WeekClocks.f k a0 a1 a2 a3 = some r) :
    Calls Try.prog 8 #[.int .i64 a0, .int .i64 a1, .int .i64 a2, .int .i64 a3] w fun e w' => e = .returned (.bool r) ∧ Below w.heap.size w w' := by
  have HB := Aside0.mk (Below.refl w.heap.size w)
  have H : ((week_Split.f a0).bind fun bt161 => ((dayshiftref02_Split.f a0).bind fun bt164 => ((week_Order.f a0 a1).bind fun bt167 => ((dayshiftref02_Order.f k a0 a1).bind fun bt169 => ((week_Join.f a2 a3).bind fun bt171 => ((dayshiftref02_Join.f a2 a3).bind fun bt173 => (if bt161.1 = bt164.1 then (if bt161.2.1 = bt164.2.1 then (if bt161.2.2 = bt164.2.2 then (if bt167.1 = bt169.1 then (if bt167.2 = bt169.2 then (if bt171.1 = bt173.1 then (dayshiftlaw02_WeekClocks.j0 k a0 bt161.1 bt161.2.1 bt161.2.2 (bt171.2 != bt173.2)) else (dayshiftlaw02_WeekClocks.j0 k a0 bt161.1 bt161.2.1 bt161.2.2 true)) else (dayshiftlaw02_WeekClocks.j0 k a0 bt161.1 bt161.2.1 bt161.2.2 true)) else (dayshiftlaw02_WeekClocks.j0 k a0 bt161.1 bt161.2.1 bt161.2.2 true)) else (dayshiftlaw02_WeekClocks.j0 k a0 bt161.1 bt161.2.1 bt161.2.2 true)) else (dayshiftlaw02_WeekClocks.j0 k a0 bt161.1 bt161.2.1 bt161.2.2 true)) else (dayshiftlaw02_WeekClocks.j0 k a0 bt161.1 bt161.2.1 bt161.2.2 true)))))))) = some r := h
  clear h
  replace H := Option.bind_eq_some_iff.mp H
  obtain ⟨⟨t161, t162, t163⟩, A50, H⟩ := H
  replace H : ((dayshiftref02_Split.f a0).bind fun bt164 => ((week_Order.f a0 a1).bind fun bt167 => ((dayshiftref02_Order.f k a0 a1).bind fun bt169 => ((week_Join.f a2 a3).bind fun bt171 => ((dayshiftref02_Join.f a2 a3).bind fun bt173 => (if t161 = bt164.1 then (if t162 = bt164.2.1 then (if t163 = bt164.2.2 then (if bt167.1 = bt169.1 then (if bt167.2 = bt169.2 then (if bt171.1 = bt173.1 then (dayshiftlaw02_WeekClocks.j0 k a0 t161 t162 t163 (bt171.2 != bt173.2)) else (dayshiftlaw02_WeekClocks.j0 k a0 t161 t162 t163 true)) else (dayshiftlaw02_WeekClocks.j0 k a0 t161 t162 t163 true)) else (dayshiftlaw02_WeekClocks.j0 k a0 t161 t162 t163 true)) else (dayshiftlaw02_WeekClocks.j0 k a0 t161 t162 t163 true)) else (dayshiftlaw02_WeekClocks.j0 k a0 t161 t162 t163 true)) else (dayshiftlaw02_WeekClocks.j0 k a0 t161 t162 t163 true))))))) = some r := H
  have A5 := Aside0.mk A50
  clear A50
  replace H := Option.bind_eq_some_iff.mp H
  obtain ⟨⟨t164, t165, t166⟩, A60, H⟩ := H
  replace H : ((week_Order.f a0 a1).bind fun bt167 => ((dayshiftref02_Order.f k a0 a1).bind fun bt169 => ((week_Join.f a2 a3).bind fun bt171 => ((dayshiftref02_Join.f a2 a3).bind fun bt173 => (if t161 = t164 then (if t162 = t165 then (if t163 = t166 then (if bt167.1 = bt169.1 then (if bt167.2 = bt169.2 then (if bt171.1 = bt173.1 then (dayshiftlaw02_WeekClocks.j0 k a0 t161 t162 t163 (bt171.2 != bt173.2)) else (dayshiftlaw02_WeekClocks.j0 k a0 t161 t162 t163 true)) else (dayshiftlaw02_WeekClocks.j0 k a0 t161 t162 t163 true)) else (dayshiftlaw02_WeekClocks.j0 k a0 t161 t162 t163 true)) else (dayshiftlaw02_WeekClocks.j0 k a0 t161 t162 t163 true)) else (dayshiftlaw02_WeekClocks.j0 k a0 t161 t162 t163 true)) else (dayshiftlaw02_WeekClocks.j0 k a0 t161 t162 t163 true)))))) = some r := H
  have A6 := Aside0.mk A60
  clear A60
  replace H := Option.bind_eq_some_iff.mp H
  obtain ⟨⟨t167, t168⟩, A70, H⟩ := H
  replace H : ((dayshiftref02_Order.f k a0 a1).bind fun bt169 => ((week_Join.f a2 a3).bind fun bt171 => ((dayshiftref02_Join.f a2 a3).bind fun bt173 => (if t161 = t164 then (if t162 = t165 then (if t163 = t166 then (if t167 = bt169.1 then (if t168 = bt169.2 then (if bt171.1 = bt173.1 then (dayshiftlaw02_WeekClocks.j0 k a0 t161 t162 t163 (bt171.2 != bt173.2)) else (dayshiftlaw02_WeekClocks.j0 k a0 t161 t162 t163 true)) else (dayshiftlaw02_WeekClocks.j0 k a0 t161 t162 t163 true)) else (dayshiftlaw02_WeekClocks.j0 k a0 t161 t162 t163 true)) else (dayshiftlaw02_WeekClocks.j0 k a0 t161 t162 t163 true)) else (dayshiftlaw02_WeekClocks.j0 k a0 t161 t162 t163 true)) else (dayshiftlaw02_WeekClocks.j0 k a0 t161 t162 t163 true))))) = some r := H
  have A7 := Aside0.mk A70
  clear A70
  replace H := Option.bind_eq_some_iff.mp H
  obtain ⟨⟨t169, t170⟩, A80, H⟩ := H
  replace H : ((week_Join.f a2 a3).bind fun bt171 => ((dayshiftref02_Join.f a2 a3).bind fun bt173 => (if t161 = t164 then (if t162 = t165 then (if t163 = t166 then (if t167 = t169 then (if t168 = t170 then (if bt171.1 = bt173.1 then (dayshiftlaw02_WeekClocks.j0 k a0 t161 t162 t163 (bt171.2 != bt173.2)) else (dayshiftlaw02_WeekClocks.j0 k a0 t161 t162 t163 true)) else (dayshiftlaw02_WeekClocks.j0 k a0 t161 t162 t163 true)) else (dayshiftlaw02_WeekClocks.j0 k a0 t161 t162 t163 true)) else (dayshiftlaw02_WeekClocks.j0 k a0 t161 t162 t163 true)) else (dayshiftlaw02_WeekClocks.j0 k a0 t161 t162 t163 true)) else (dayshiftlaw02_WeekClocks.j0 k a0 t161 t162 t163 true)))) = some r := H
  have A8 := Aside0.mk A80
  clear A80
  replace H := Option.bind_eq_some_iff.mp H
  obtain ⟨⟨t171, t172⟩, A90, H⟩ := H
  replace H : ((dayshiftref02_Join.f a2 a3).bind fun bt173 => (if t161 = t164 then (if t162 = t165 then (if t163 = t166 then (if t167 = t169 then (if t168 = t170 then (if t171 = bt173.1 then (dayshiftlaw02_WeekClocks.j0 k a0 t161 t162 t163 (t172 != bt173.2)) else (dayshiftlaw02_WeekClocks.j0 k a0 t161 t162 t163 true)) else (dayshiftlaw02_WeekClocks.j0 k a0 t161 t162 t163 true)) else (dayshiftlaw02_WeekClocks.j0 k a0 t161 t162 t163 true)) else (dayshiftlaw02_WeekClocks.j0 k a0 t161 t162 t163 true)) else (dayshiftlaw02_WeekClocks.j0 k a0 t161 t162 t163 true)) else (dayshiftlaw02_WeekClocks.j0 k a0 t161 t162 t163 true))) = some r := H
  have A9 := Aside0.mk A90
  clear A90
  replace H := Option.bind_eq_some_iff.mp H
  obtain ⟨⟨t173, t174⟩, A100, H⟩ := H
  replace H : (if t161 = t164 then (if t162 = t165 then (if t163 = t166 then (if t167 = t169 then (if t168 = t170 then (if t171 = t173 then (dayshiftlaw02_WeekClocks.j0 k a0 t161 t162 t163 (t172 != t174)) else (dayshiftlaw02_WeekClocks.j0 k a0 t161 t162 t163 true)) else (dayshiftlaw02_WeekClocks.j0 k a0 t161 t162 t163 true)) else (dayshiftlaw02_WeekClocks.j0 k a0 t161 t162 t163 true)) else (dayshiftlaw02_WeekClocks.j0 k a0 t161 t162 t163 true)) else (dayshiftlaw02_WeekClocks.j0 k a0 t161 t162 t163 true)) else (dayshiftlaw02_WeekClocks.j0 k a0 t161 t162 t163 true)) = some r := H
  have A10 := Aside0.mk A100
  clear A100
  have HC11 := Aside0.mk H
  clear H
  go_enter Try.func8, Try.ntmps8
  go_upto_region 7 with (first | ((with_reducible refine gate_callee (f := 20) rfl ?_); refine goesL_ (some 27) rfl rfl Try.func20 (by kernel_rfl) rfl #[.int .i64 a0] rfl (by (try simp only [List.map_toArray, List.map_cons, List.map_nil]); first | done | rfl | (simp only [List.length_drop, List.length_take]; rfl)) ?_; (with_reducible refine (week_Split.calls a0 t161 t162 t163 _ A5.out).mono ?_); rintro e w' ⟨rfl, ⟨nd, rfl⟩⟩; refine ⟨_, rfl, ?_⟩) | ((with_reducible refine gate_callee (f := 21) rfl ?_); refine goesL_ (some 33) rfl rfl Try.func21 (by kernel_rfl) rfl #[.int .i64 a0] rfl (by (try simp only [List.map_toArray, List.map_cons, List.map_nil]); first | done | rfl | (simp only [List.length_drop, List.length_take]; rfl)) ?_; (with_reducible refine (dayshiftref02_Split.calls a0 t164 t165 t166 _ A6.out).mono ?_); rintro e w' ⟨rfl, ⟨nd, rfl⟩⟩; refine ⟨_, rfl, ?_⟩) | ((with_reducible refine gate_callee (f := 13) rfl ?_); refine goesL_ (some 40) rfl rfl Try.func13 (by kernel_rfl) rfl #[.int .i64 a0, .int .i64 a1] rfl (by (try simp only [List.map_toArray, List.map_cons, List.map_nil]); first | done | rfl | (simp only [List.length_drop, List.length_take]; rfl)) ?_; (with_reducible refine (week_Order.calls a0 a1 t167 t168 _ A7.out).mono ?_); rintro e w' ⟨rfl, ⟨nd, rfl⟩⟩; refine ⟨_, rfl, ?_⟩) | ((with_reducible refine gate_callee (f := 22) rfl ?_); refine goesL_ (some 46) rfl rfl Try.func22 (by kernel_rfl) rfl #[.int .i64 a0, .int .i64 a1] rfl (by (try simp only [List.map_toArray, List.map_cons, List.map_nil]); first | done | rfl | (simp only [List.length_drop, List.length_take]; rfl)) ?_; (with_reducible refine (dayshiftref02_Order.calls k a0 a1 t169 t170 _ A8.out).mono ?_); rintro e w' ⟨rfl, ⟨nd, rfl⟩⟩; refine ⟨_, rfl, ?_⟩) | ((with_reducible refine gate_callee (f := 23) rfl ?_); refine goesL_ (some 52) rfl rfl Try.func23 (by kernel_rfl) rfl #[.int .i64 a2, .int .i64 a3] rfl (by (try simp only [List.map_toArray, List.map_cons, List.map_nil]); first | done | rfl | (simp only [List.length_drop, List.length_take]; rfl)) ?_; (with_reducible refine (week_Join.calls a2 a3 t171 t172 _ A9.out).mono ?_); rintro e w' ⟨rfl, ⟨nd, rfl⟩⟩; refine ⟨_, rfl, ?_⟩) | ((with_reducible refine gate_callee (f := 24) rfl ?_); refine goesL_ (some 58) rfl rfl Try.func24 (by kernel_rfl) rfl #[.int .i64 a2, .int .i64 a3] rfl (by (try simp only [List.map_toArray, List.map_cons, List.map_nil]); first | done | rfl | (simp only [List.length_drop, List.length_take]; rfl)) ?_; (with_reducible refine (dayshiftref02_Join.calls a2 a3 t173 t174 _ A10.out).mono ?_); rintro e w' ⟨rfl, ⟨nd, rfl⟩⟩; refine ⟨_, rfl, ?_⟩))
  (try simp only [Act.put, List.setIfInBounds_toArray, List.set_cons_zero, List.set_cons_succ])
  go_cut [93] (fun v93 wc => ∃ (kq : Nat) (x93_10 : Bool), v93 = .bool x93_10 ∧ Aside0 (dayshiftlaw02_WeekClocks.j0 kq a0 t161 t162 t163 x93_10 = some r) ∧ Aside0 (kq ≤ k) ∧ Aside0 (Below w.heap.size w wc))
  case first =>
    have H := HC11.out
    clear HC11
    by_cases c12 : t161 = t164
    · rw [if_pos c12] at H
      have c12b0 : (t161 == t164) = true := beq_iff_eq.mpr c12
      have c12b1 : (t161 != t164) = false := bne_eq_false_iff_eq.mpr c12
      clear c12
      (first | rw [c12b0] | (simp only [i64_w, i32_w]; rw [c12b0]) | skip)
      by_cases c13 : t162 = t165
      · rw [if_pos c13] at H
        have c13b0 : (t162 == t165) = true := beq_iff_eq.mpr c13
        have c13b1 : (t162 != t165) = false := bne_eq_false_iff_eq.mpr c13
        clear c13
        by_cases c14 : t163 = t166
        · rw [if_pos c14] at H
          have c14b0 : (t163 == t166) = true := beq_iff_eq.mpr c14
          have c14b1 : (t163 != t166) = false := bne_eq_false_iff_eq.mpr c14
          clear c14
          by_cases c15 : t167 = t169
          · rw [if_pos c15] at H
            have c15b0 : (t167 == t169) = true := beq_iff_eq.mpr c15
            have c15b1 : (t167 != t169) = false := bne_eq_false_iff_eq.mpr c15
            clear c15
            by_cases c16 : t168 = t170
            · rw [if_pos c16] at H
              have c16b0 : (t168 == t170) = true := beq_iff_eq.mpr c16
              have c16b1 : (t168 != t170) = false := bne_eq_false_iff_eq.mpr c16
              clear c16
              by_cases c17 : t171 = t173
              · rw [if_pos c17] at H
                have c17b0 : (t171 == t173) = true := beq_iff_eq.mpr c17
                have c17b1 : (t171 != t173) = false := bne_eq_false_iff_eq.mpr c17
                clear c17
                have H' := Aside0.mk H
                clear H
                go_wp2
                go_meet
                case rel => exact ⟨_, ((t172 != t174)), (by first | rfl | (simp; done) | (simp [*]; done)), H', ⟨by first | omega | exact Nat.le_refl _⟩, ⟨by repeat (first | (with_reducible first | exact HB.out | apply below_alloc | apply pw_below_drewN | apply below_drew1) | exact HB.out)⟩⟩
              · rw [if_neg c17] at H
                have c17b0 : (t171 == t173) = false := beq_eq_false_iff_ne.mpr c17
                have c17b1 : (t171 != t173) = true := bne_iff_ne.mpr c17
                have H' := Aside0.mk H
                clear H
                go_wp2
                go_meet
                case rel => exact ⟨_, (true), (by first | rfl | (simp; done) | (simp [*]; done)), H', ⟨by first | omega | exact Nat.le_refl _⟩, ⟨by repeat (first | (with_reducible first | exact HB.out | apply below_alloc | apply pw_below_drewN | apply below_drew1) | exact HB.out)⟩⟩
            · rw [if_neg c16] at H
              have c16b0 : (t168 == t170) = false := beq_eq_false_iff_ne.mpr c16
              have c16b1 : (t168 != t170) = true := bne_iff_ne.mpr c16
              have H' := Aside0.mk H
              clear H
              go_wp2
              go_meet
              case rel => exact ⟨_, (true), (by first | rfl | (simp; done) | (simp [*]; done)), H', ⟨by first | omega | exact Nat.le_refl _⟩, ⟨by repeat (first | (with_reducible first | exact HB.out | apply below_alloc | apply pw_below_drewN | apply below_drew1) | exact HB.out)⟩⟩
          · rw [if_neg c15] at H
            have c15b0 : (t167 == t169) = false := beq_eq_false_iff_ne.mpr c15
            have c15b1 : (t167 != t169) = true := bne_iff_ne.mpr c15
            have H' := Aside0.mk H
            clear H
            go_wp2
            go_meet
            case rel => exact ⟨_, (true), (by first | rfl | (simp; done) | (simp [*]; done)), H', ⟨by first | omega | exact Nat.le_refl _⟩, ⟨by repeat (first | (with_reducible first | exact HB.out | apply below_alloc | apply pw_below_drewN | apply below_drew1) | exact HB.out)⟩⟩
        · rw [if_neg c14] at H
          have c14b0 : (t163 == t166) = false := beq_eq_false_iff_ne.mpr c14
          have c14b1 : (t163 != t166) = true := bne_iff_ne.mpr c14
          have H' := Aside0.mk H
          clear H
          go_wp2
          go_meet
          case rel => exact ⟨_, (true), (by first | rfl | (simp; done) | (simp [*]; done)), H', ⟨by first | omega | exact Nat.le_refl _⟩, ⟨by repeat (first | (with_reducible first | exact HB.out | apply below_alloc | apply pw_below_drewN | apply below_drew1) | exact HB.out)⟩⟩
      · rw [if_neg c13] at H
        have c13b0 : (t162 == t165) = false := beq_eq_false_iff_ne.mpr c13
        have c13b1 : (t162 != t165) = true := bne_iff_ne.mpr c13
        have H' := Aside0.mk H
        clear H
        go_wp2
        go_meet
        case rel => exact ⟨_, (true), (by first | rfl | (simp; done) | (simp [*]; done)), H', ⟨by first | omega | exact Nat.le_refl _⟩, ⟨by repeat (first | (with_reducible first | exact HB.out | apply below_alloc | apply pw_below_drewN | apply below_drew1) | exact HB.out)⟩⟩
    · rw [if_neg c12] at H
      have c12b0 : (t161 == t164) = false := beq_eq_false_iff_ne.mpr c12
      have c12b1 : (t161 != t164) = true := bne_iff_ne.mpr c12
      (first | rw [c12b0] | (simp only [i64_w, i32_w]; rw [c12b0]) | skip)
      have H' := Aside0.mk H
      clear H
      go_wp2
      go_meet
      case rel => exact ⟨_, (true), (by first | rfl | (simp; done) | (simp [*]; done)), H', ⟨by first | omega | exact Nat.le_refl _⟩, ⟨by repeat (first | (with_reducible first | exact HB.out | apply below_alloc | apply pw_below_drewN | apply below_drew1) | exact HB.out)⟩⟩
  case rest =>
    clear HC11
    try clear c1
    try clear c2
    try clear p2
    try clear c8
    try clear c12
    try clear c12b0
    try clear c12b1
    try clear c13
    try clear c13b0
    try clear c13b1
    try clear c14
    try clear c14b0
    try clear c14b1
    try clear c15
    try clear c15b0
    try clear c15b1
    try clear c16
    try clear c16b0
    try clear c16b1
    try clear c17
    try clear c17b0
    try clear c17b1
    obtain ⟨kq, x93_10, rfl, HA, HJ10, HB⟩ := hcut
    cases kq with
    | zero => exact absurd HA.out (by simp [dayshiftlaw02_WeekClocks.j0])
    | succ kj10 =>
      have H := HA.out
      clear HA
      simp only [dayshiftlaw02_WeekClocks.j0] at H
      by_cases c18 : x93_10 = true
      · subst c18
        have H1 : (some false) = some r := by rw [if_pos rfl] at H; exact H
        clear H
        have H := H1
        clear H1
        obtain rfl := Option.some.inj H
        go_wp2
        go_ret
        exact ⟨by first | rfl | (simp [errW_none, errW_some] <;> rfl) | (simp [*, errW_none, errW_some] <;> rfl), by repeat (first | (with_reducible first | exact HB.out | apply below_alloc | apply pw_below_drewN | apply below_drew1) | exact HB.out)⟩
      · replace c18 := Bool.eq_false_iff.mpr c18
        subst c18
        have H1 : (if t163 = 0 then ((week_Join.f t161 t162).bind fun bt175 => (if bt175.1 = a0 then (if bt175.2 = 0 then ((dayshiftlaw02_known.f kj10).bind fun t177 => (some t177)) else (some false)) else (some false))) else ((dayshiftlaw02_known.f kj10).bind fun t178 => (some t178))) = some r := by rw [if_neg (show ¬ (false = true) by decide)] at H; exact H
        clear H
        have H := H1
        clear H1
        by_cases c19 : t163 = 0
        · rw [if_pos c19] at H
          have c19b0 : (t163 == 0) = true := beq_iff_eq.mpr c19
          have c19b1 : (t163 != 0) = false := bne_eq_false_iff_eq.mpr c19
          clear c19
          replace H := Option.bind_eq_some_iff.mp H
          obtain ⟨⟨t175, t176⟩, A200, H⟩ := H
          replace H : (if t175 = a0 then (if t176 = 0 then ((dayshiftlaw02_known.f kj10).bind fun t177 => (some t177)) else (some false)) else (some false)) = some r := H
          have A20 := Aside0.mk A200
          clear A200
          by_cases c21 : t175 = a0
          · rw [if_pos c21] at H
            have c21b0 : (t175 == a0) = true := beq_iff_eq.mpr c21
            have c21b1 : (t175 != a0) = false := bne_eq_false_iff_eq.mpr c21
            clear c21
            by_cases c22 : t176 = 0
            · rw [if_pos c22] at H
              have c22b0 : (t176 == 0) = true := beq_iff_eq.mpr c22
              have c22b1 : (t176 != 0) = false := bne_eq_false_iff_eq.mpr c22
              clear c22
              replace H := Option.bind_eq_some_iff.mp H
              obtain ⟨t177, A230, H⟩ := H
              replace H : (some t177) = some r := H
              have A23 := Aside0.mk A230
              clear A230
              obtain rfl := Option.some.inj H
              go_wp2_with (first | ((with_reducible refine gate_callee (f := 23) rfl ?_); refine goesL_ (some 100) rfl rfl Try.func23 (by kernel_rfl) rfl #[.int .i64 t161, .int .i64 t162] rfl (by (try simp only [List.map_toArray, List.map_cons, List.map_nil]); first | done | rfl | (simp only [List.length_drop, List.length_take]; rfl)) ?_; (with_reducible refine (week_Join.calls t161 t162 t175 t176 _ A20.out).mono ?_); rintro e w' ⟨rfl, ⟨nd, rfl⟩⟩; refine ⟨_, rfl, ?_⟩) | (go_at_call 12; (with_reducible refine (dayshiftlaw02_known.calls kj10  t177 _ A23.out).mono ?_); rintro e w24 ⟨rfl, hb⟩; have n0_ := Aside0.mk (below_step (by repeat (first | (with_reducible first | exact HB.out | apply below_alloc | apply pw_below_drewN | apply below_drew1) | exact HB.out)) hb); clear HB; have HB := n0_; clear n0_; (try clear hb); (try clear hb2); (try clear hk); (try clear hi)))
              go_ret
              exact ⟨by first | rfl | (simp [errW_none, errW_some] <;> rfl) | (simp [*, errW_none, errW_some] <;> rfl), by repeat (first | (with_reducible first | exact HB.out | apply below_alloc | apply pw_below_drewN | apply below_drew1) | exact HB.out)⟩
            · rw [if_neg c22] at H
              have c22b0 : (t176 == 0) = false := beq_eq_false_iff_ne.mpr c22
              have c22b1 : (t176 != 0) = true := bne_iff_ne.mpr c22
              obtain rfl := Option.some.inj H
              go_wp2_with (first | ((with_reducible refine gate_callee (f := 23) rfl ?_); refine goesL_ (some 100) rfl rfl Try.func23 (by kernel_rfl) rfl #[.int .i64 t161, .int .i64 t162] rfl (by (try simp only [List.map_toArray, List.map_cons, List.map_nil]); first | done | rfl | (simp only [List.length_drop, List.length_take]; rfl)) ?_; (with_reducible refine (week_Join.calls t161 t162 t175 t176 _ A20.out).mono ?_); rintro e w' ⟨rfl, ⟨nd, rfl⟩⟩; refine ⟨_, rfl, ?_⟩))
              go_ret
              exact ⟨by first | rfl | (simp [errW_none, errW_some] <;> rfl) | (simp [*, errW_none, errW_some] <;> rfl), by repeat (first | (with_reducible first | exact HB.out | apply below_alloc | apply pw_below_drewN | apply below_drew1) | exact HB.out)⟩
          · rw [if_neg c21] at H
            have c21b0 : (t175 == a0) = false := beq_eq_false_iff_ne.mpr c21
            have c21b1 : (t175 != a0) = true := bne_iff_ne.mpr c21
            obtain rfl := Option.some.inj H
            go_wp2_with (first | ((with_reducible refine gate_callee (f := 23) rfl ?_); refine goesL_ (some 100) rfl rfl Try.func23 (by kernel_rfl) rfl #[.int .i64 t161, .int .i64 t162] rfl (by (try simp only [List.map_toArray, List.map_cons, List.map_nil]); first | done | rfl | (simp only [List.length_drop, List.length_take]; rfl)) ?_; (with_reducible refine (week_Join.calls t161 t162 t175 t176 _ A20.out).mono ?_); rintro e w' ⟨rfl, ⟨nd, rfl⟩⟩; refine ⟨_, rfl, ?_⟩))
            go_ret
            exact ⟨by first | rfl | (simp [errW_none, errW_some] <;> rfl) | (simp [*, errW_none, errW_some] <;> rfl), by repeat (first | (with_reducible first | exact HB.out | apply below_alloc | apply pw_below_drewN | apply below_drew1) | exact HB.out)⟩
        · rw [if_neg c19] at H
          have c19b0 : (t163 == 0) = false := beq_eq_false_iff_ne.mpr c19
          have c19b1 : (t163 != 0) = true := bne_iff_ne.mpr c19
          replace H := Option.bind_eq_some_iff.mp H
          obtain ⟨t178, A250, H⟩ := H
          replace H : (some t178) = some r := H
          have A25 := Aside0.mk A250
          clear A250
          obtain rfl := Option.some.inj H
          go_wp2_with (first | ((with_reducible refine gate_callee (f := 12) rfl ?_); refine goesL_ (some 96) rfl rfl Try.func12 (by kernel_rfl) rfl #[] rfl (by (try simp only [List.map_toArray, List.map_cons, List.map_nil]); first | done | rfl | (simp only [List.length_drop, List.length_take]; rfl)) ?_; (with_reducible refine (dayshiftlaw02_known.calls kj10  t178 _ A25.out).mono ?_); rintro e w26 ⟨rfl, hb⟩; refine ⟨_, rfl, ?_⟩; have n0_ := Aside0.mk (below_step (by repeat (first | (with_reducible first | exact HB.out | apply below_alloc | apply pw_below_drewN | apply below_drew1) | exact HB.out)) hb); clear HB; have HB := n0_; clear n0_; (try clear hb); (try clear hb2); (try clear hk); (try clear hi)))
          go_ret
          exact ⟨by first | rfl | (simp [errW_none, errW_some] <;> rfl) | (simp [*, errW_none, errW_some] <;> rfl), by repeat (first | (with_reducible first | exact HB.out | apply below_alloc | apply pw_below_drewN | apply below_drew1) | exact HB.out)⟩

/-- THE ONE PURE STATEMENT of dayshiftlaw02_WeekClocks: yours. -/
def dayshiftlaw02_WeekClocks.Pure : Prop := ∀ (a0 : Int) (a1 : Int) (a2 : Int) (a3 : Int), (Lit.int .i64 a0).wf = true → (Lit.int .i64 a1).wf = true → (Lit.int .i64 a2).wf = true → (Lit.int .i64 a3).wf = true → ∃ k, dayshiftlaw02_WeekClocks.f k a0 a1 a2 a3 = some true
theorem dayshiftlaw02_WeekClocks.walk (P : dayshiftlaw02_WeekClocks.Pure) (a0 : Int) (a1 : Int) (a2 : Int) (a3 : Int) (w : World) (w0 : (Lit.int .i64 a0).wf = true) (w1 : (Lit.int .i64 a1).wf = true) (w2 : (Lit.int .i64 a2).wf = true) (w3 : (Lit.int .i64 a3).wf = true) :
    Calls Try.prog 8 #[.int .i64 a0, .int .i64 a1, .int .i64 a2, .int .i64 a3] w fun e w' => e = .returned (.bool true) ∧ Below w.heap.size w w' := by
  obtain ⟨k, h⟩ := P a0 a1 a2 a3 w0 w1 w2 w3
  refine (dayshiftlaw02_WeekClocks.calls k a0 a1 a2 a3 true w h).mono ?_
  rintro e w' ⟨rfl, hd⟩
  exact ⟨rfl, hd⟩

end Go.Proofs.Ytjfghphblgkoiaa.PWeekClocks
