/- This text holds, for Go functions of the given program, Lean functions with the same answers, and proofs that the machine's calls come to these answers; each theorem names its own conditions. It was laid by a program of this session. -/
import Derived.Test.YtkeecpgfpoaplaaPDateOrderx0
import Derived.Test.YtkeecpgfpoaplaaPDateOrderx1
namespace Go.Proofs.Ytkeecpgfpoaplaa.PDateOrder
open Go.RowKit Go.Proofs.YtkeecpgfpoaplaaW.PrintWords Go.Proofs.YtkeecpgfpoaplaaW.PrintLast Go.Proofs.YtkeecpgfpoaplaaW.PrintMore
attribute [local go_sem] max2_int min2_int max_two min_two max_three min_three max_four min_four   -- for this text's walks alone
set_option linter.unusedVariables false
set_option linter.unusedSimpArgs false

/-! ### dayshiftlaw01_DateOrder: function 5 -/
def dayshiftlaw01_DateOrder.j0 : Nat → Int → Int → Int → Int → Int → Int → Int → Int → Bool → Option (Bool)
  | 0, _, _, _, _, _, _, _, _, _ => none
  | k + 1, x0, x1, x2, x3, x4, x5, x13, x15, x37 => if x37 = true then ((dayshiftlaw01_known.f k).bind fun t123 => (some t123)) else (if x0 < x3 then (if (true == (decide (x13 < x15))) = true then ((dayshiftlaw01_known.f k).bind fun t124 => (some t124)) else (some false)) else (if x0 = x3 then (if x1 < x4 then (if (true == (decide (x13 < x15))) = true then ((dayshiftlaw01_known.f k).bind fun t125 => (some t125)) else (some false)) else (if x1 = x4 then (if ((decide (x2 < x5)) == (decide (x13 < x15))) = true then ((dayshiftlaw01_known.f k).bind fun t126 => (some t126)) else (some false)) else (if (false == (decide (x13 < x15))) = true then ((dayshiftlaw01_known.f k).bind fun t127 => (some t127)) else (some false)))) else (if (false == (decide (x13 < x15))) = true then ((dayshiftlaw01_known.f k).bind fun t128 => (some t128)) else (some false))))
def dayshiftlaw01_DateOrder.f (k : Nat) (a0 : Int) (a1 : Int) (a2 : Int) (a3 : Int) (a4 : Int) (a5 : Int) : Option (Bool) := (date_Days.f k a0 a1 a2).bind fun bt119 => ((date_Days.f k a3 a4 a5).bind fun bt121 => (if bt119.2 = 0 then (dayshiftlaw01_DateOrder.j0 k a0 a1 a2 a3 a4 a5 bt119.1 bt121.1 (bt121.2 != 0)) else (dayshiftlaw01_DateOrder.j0 k a0 a1 a2 a3 a4 a5 bt119.1 bt121.1 true)))
theorem dayshiftlaw01_DateOrder.mono_l : ∀ k, (∀ y0 y1 y2 y3 y4 y5 y6 y7 y8, LeO (dayshiftlaw01_DateOrder.j0 k y0 y1 y2 y3 y4 y5 y6 y7 y8) (dayshiftlaw01_DateOrder.j0 (k + 1) y0 y1 y2 y3 y4 y5 y6 y7 y8))
  | 0 => fun _ _ _ _ _ _ _ _ _ r h => by simp [dayshiftlaw01_DateOrder.j0] at h
  | k + 1 => by
    have ih0 := dayshiftlaw01_DateOrder.mono_l k
    · intro y0 y1 y2 y3 y4 y5 y6 y7 y8
      unfold dayshiftlaw01_DateOrder.j0
      repeat' first
      | (with_reducible exact ih0 _ _ _ _ _ _ _ _ _)
      | (with_reducible exact date_Days.mono _ _ _ _)
      | (with_reducible exact dayshiftlaw01_known.mono _)
      | (with_reducible exact LeO.refl _)
      | (with_reducible exact LeO.none _)
      | (with_reducible refine LeO.ite ?_ ?_)
      | (with_reducible refine LeO.bind ?_ (fun _ => ?_))
      | exact ih0 _ _ _ _ _ _ _ _ _
      | exact date_Days.mono _ _ _ _
      | exact dayshiftlaw01_known.mono _
      | exact LeO.none _
      | refine LeO.ite ?_ ?_
      | refine LeO.bind ?_ (fun _ => ?_)
theorem dayshiftlaw01_DateOrder.mono : ∀ a0 a1 a2 a3 a4 a5 k, LeO (dayshiftlaw01_DateOrder.f k a0 a1 a2 a3 a4 a5) (dayshiftlaw01_DateOrder.f (k + 1) a0 a1 a2 a3 a4 a5) := by
  intro a0 a1 a2 a3 a4 a5 k
  have ih0 := dayshiftlaw01_DateOrder.mono_l k
  unfold dayshiftlaw01_DateOrder.f
  repeat' first
      | (with_reducible exact ih0 _ _ _ _ _ _ _ _ _)
      | (with_reducible exact date_Days.mono _ _ _ _)
      | (with_reducible exact dayshiftlaw01_known.mono _)
      | (with_reducible exact LeO.refl _)
      | (with_reducible exact LeO.none _)
      | (with_reducible refine LeO.ite ?_ ?_)
      | (with_reducible refine LeO.bind ?_ (fun _ => ?_))
      | exact ih0 _ _ _ _ _ _ _ _ _
      | exact date_Days.mono _ _ _ _
      | exact dayshiftlaw01_known.mono _
      | exact LeO.none _
      | refine LeO.ite ?_ ?_
      | refine LeO.bind ?_ (fun _ => ?_)
set_option maxHeartbeats 8000000 in
set_option maxRecDepth 100000 in
theorem dayshiftlaw01_DateOrder.calls (k : Nat) (a0 : Int) (a1 : Int) (a2 : Int) (a3 : Int) (a4 : Int) (a5 : Int) (r : Bool) (w : World) (h : dayshiftlaw01_DateOrder.f k a0 a1 a2 a3 a4 a5 = some r) :
    Calls Try.prog 5 #[.int .i64 a0, .int .i64 a1, .int .i64 a2, .int .i64 a3, .int .i64 a4, .int .i64 a5] w fun e w' => e = .returned (.bool r) ∧ Below w.heap.size w w' := by
  have HB := Aside0.mk (Below.refl w.heap.size w)
  have H : ((date_Days.f k a0 a1 a2).bind fun bt119 => ((date_Days.f k a3 a4 a5).bind fun bt121 => (if bt119.2 = 0 then (dayshiftlaw01_DateOrder.j0 k a0 a1 a2 a3 a4 a5 bt119.1 bt121.1 (bt121.2 != 0)) else (dayshiftlaw01_DateOrder.j0 k a0 a1 a2 a3 a4 a5 bt119.1 bt121.1 true)))) = some r := h
  clear h
  replace H := Option.bind_eq_some_iff.mp H
  obtain ⟨⟨t119, t120⟩, A70, H⟩ := H
  replace H : ((date_Days.f k a3 a4 a5).bind fun bt121 => (if t120 = 0 then (dayshiftlaw01_DateOrder.j0 k a0 a1 a2 a3 a4 a5 t119 bt121.1 (bt121.2 != 0)) else (dayshiftlaw01_DateOrder.j0 k a0 a1 a2 a3 a4 a5 t119 bt121.1 true))) = some r := H
  have A7 := Aside0.mk A70
  clear A70
  replace H := Option.bind_eq_some_iff.mp H
  obtain ⟨⟨t121, t122⟩, A80, H⟩ := H
  replace H : (if t120 = 0 then (dayshiftlaw01_DateOrder.j0 k a0 a1 a2 a3 a4 a5 t119 t121 (t122 != 0)) else (dayshiftlaw01_DateOrder.j0 k a0 a1 a2 a3 a4 a5 t119 t121 true)) = some r := H
  have A8 := Aside0.mk A80
  clear A80
  have HC9 := Aside0.mk H
  clear H
  go_enter Try.func5, Try.ntmps5
  go_upto_region 3 with (first | ((with_reducible refine gate_callee (f := 8) rfl ?_); refine goesL_ (some 22) rfl rfl Try.func8 (by kernel_rfl) rfl #[.int .i64 a0, .int .i64 a1, .int .i64 a2] rfl (by (try simp only [List.map_toArray, List.map_cons, List.map_nil]); first | done | rfl | (simp only [List.length_drop, List.length_take]; rfl)) ?_; (with_reducible refine (date_Days.calls k a0 a1 a2 t119 t120 _ A7.out).mono ?_); rintro e w10 ⟨rfl, hb⟩; refine ⟨_, rfl, ?_⟩; have n0_ := Aside0.mk (below_step (by repeat (first | (with_reducible first | exact HB.out | apply below_alloc | apply pw_below_drewN | apply below_drew1) | exact HB.out)) hb); clear HB; have HB := n0_; clear n0_; (try clear hb); (try clear hb2); (try clear hk); (try clear hi)) | ((with_reducible refine gate_callee (f := 8) rfl ?_); refine goesL_ (some 29) rfl rfl Try.func8 (by kernel_rfl) rfl #[.int .i64 a3, .int .i64 a4, .int .i64 a5] rfl (by (try simp only [List.map_toArray, List.map_cons, List.map_nil]); first | done | rfl | (simp only [List.length_drop, List.length_take]; rfl)) ?_; (with_reducible refine (date_Days.calls k a3 a4 a5 t121 t122 _ A8.out).mono ?_); rintro e w11 ⟨rfl, hb⟩; refine ⟨_, rfl, ?_⟩; have n0_ := Aside0.mk (below_step (by repeat (first | (with_reducible first | exact HB.out | apply below_alloc | apply pw_below_drewN | apply below_drew1) | exact HB.out)) hb); clear HB; have HB := n0_; clear n0_; (try clear hb); (try clear hb2); (try clear hk); (try clear hi)))
  (try simp only [Act.put, List.setIfInBounds_toArray, List.set_cons_zero, List.set_cons_succ])
  go_cut [37] (fun v37 wc => ∃ (kq : Nat) (x37_8 : Bool), v37 = .bool x37_8 ∧ Aside0 (dayshiftlaw01_DateOrder.j0 kq a0 a1 a2 a3 a4 a5 t119 t121 x37_8 = some r) ∧ Aside0 (kq ≤ k) ∧ Aside0 (Below w.heap.size w wc))
  case first =>
    have H := HC9.out
    clear HC9
    by_cases c12 : t120 = 0
    · rw [if_pos c12] at H
      have c12b0 : (t120 == 0) = true := beq_iff_eq.mpr c12
      have c12b1 : (t120 != 0) = false := bne_eq_false_iff_eq.mpr c12
      clear c12
      (first | rw [c12b0] | (simp only [i64_w, i32_w]; rw [c12b0]) | skip)
      have H' := Aside0.mk H
      clear H
      go_wp2
      go_meet
      case rel => exact ⟨_, ((t122 != 0)), (by first | rfl | (simp; done) | (simp [*]; done)), H', ⟨by first | omega | exact Nat.le_refl _⟩, ⟨by repeat (first | (with_reducible first | exact HB.out | apply below_alloc | apply pw_below_drewN | apply below_drew1) | exact HB.out)⟩⟩
    · rw [if_neg c12] at H
      have c12b0 : (t120 == 0) = false := beq_eq_false_iff_ne.mpr c12
      have c12b1 : (t120 != 0) = true := bne_iff_ne.mpr c12
      (first | rw [c12b0] | (simp only [i64_w, i32_w]; rw [c12b0]) | skip)
      have H' := Aside0.mk H
      clear H
      go_wp2
      go_meet
      case rel => exact ⟨_, (true), (by first | rfl | (simp; done) | (simp [*]; done)), H', ⟨by first | omega | exact Nat.le_refl _⟩, ⟨by repeat (first | (with_reducible first | exact HB.out | apply below_alloc | apply pw_below_drewN | apply below_drew1) | exact HB.out)⟩⟩
  case rest =>
    clear HC9
    try clear c1
    try clear p2
    try clear c5
    try clear c8
    try clear c12
    try clear c12b0
    try clear c12b1
    obtain ⟨kq, x37_8, rfl, HA, HJ8, HB⟩ := hcut
    cases kq with
    | zero => exact absurd HA.out (by simp [dayshiftlaw01_DateOrder.j0])
    | succ kj8 =>
      have H := HA.out
      clear HA
      simp only [dayshiftlaw01_DateOrder.j0] at H
      by_cases c13 : x37_8 = true
      · subst c13
        have H1 : ((dayshiftlaw01_known.f kj8).bind fun t123 => (some t123)) = some r := by rw [if_pos rfl] at H; exact H
        clear H
        have H := H1
        clear H1
        replace H := Option.bind_eq_some_iff.mp H
        obtain ⟨t123, A140, H⟩ := H
        replace H : (some t123) = some r := H
        have A14 := Aside0.mk A140
        clear A140
        obtain rfl := Option.some.inj H
        go_wp2_with (first | ((with_reducible refine gate_callee (f := 14) rfl ?_); refine goesL_ (some 38) rfl rfl Try.func14 (by kernel_rfl) rfl #[] rfl (by (try simp only [List.map_toArray, List.map_cons, List.map_nil]); first | done | rfl | (simp only [List.length_drop, List.length_take]; rfl)) ?_; (with_reducible refine (dayshiftlaw01_known.calls kj8  t123 _ A14.out).mono ?_); rintro e w15 ⟨rfl, hb⟩; refine ⟨_, rfl, ?_⟩; have n0_ := Aside0.mk (below_step (by repeat (first | (with_reducible first | exact HB.out | apply below_alloc | apply pw_below_drewN | apply below_drew1) | exact HB.out)) hb); clear HB; have HB := n0_; clear n0_; (try clear hb); (try clear hb2); (try clear hk); (try clear hi)))
        go_ret
        exact ⟨by first | rfl | (simp [errW_none, errW_some] <;> rfl) | (simp [*, errW_none, errW_some] <;> rfl), by repeat (first | (with_reducible first | exact HB.out | apply below_alloc | apply pw_below_drewN | apply below_drew1) | exact HB.out)⟩
      · replace c13 := Bool.eq_false_iff.mpr c13
        subst c13
        have H1 : (if a0 < a3 then (if (true == (decide (t119 < t121))) = true then ((dayshiftlaw01_known.f kj8).bind fun t124 => (some t124)) else (some false)) else (if a0 = a3 then (if a1 < a4 then (if (true == (decide (t119 < t121))) = true then ((dayshiftlaw01_known.f kj8).bind fun t125 => (some t125)) else (some false)) else (if a1 = a4 then (if ((decide (a2 < a5)) == (decide (t119 < t121))) = true then ((dayshiftlaw01_known.f kj8).bind fun t126 => (some t126)) else (some false)) else (if (false == (decide (t119 < t121))) = true then ((dayshiftlaw01_known.f kj8).bind fun t127 => (some t127)) else (some false)))) else (if (false == (decide (t119 < t121))) = true then ((dayshiftlaw01_known.f kj8).bind fun t128 => (some t128)) else (some false)))) = some r := by rw [if_neg (show ¬ (false = true) by decide)] at H; exact H
        clear H
        have H := H1
        clear H1
        by_cases c16 : a0 < a3
        · rw [if_pos c16] at H
          have c16b0 : decide (a0 < a3) = true := decide_eq_true c16
          clear c16
          by_cases c17 : (true == (decide (t119 < t121))) = true
          · rw [if_pos c17] at H
            have c17b0 : (true == (decide (t119 < t121))) = true := c17
            (try (have c17b1 : decide (true = (decide (t119 < t121))) = true := by simpa using c17))
            (try (have c17b2 : (true == (decide (t119 < t121))) = true := by simpa using c17))
            clear c17
            replace H := Option.bind_eq_some_iff.mp H
            obtain ⟨t124, A180, H⟩ := H
            replace H : (some t124) = some r := H
            have A18 := Aside0.mk A180
            clear A180
            obtain rfl := Option.some.inj H
            go_wp2_with (first | (go_at_call 14; (with_reducible refine (dayshiftlaw01_known.calls kj8  t124 _ A18.out).mono ?_); rintro e w19 ⟨rfl, hb⟩; have n0_ := Aside0.mk (below_step (by repeat (first | (with_reducible first | exact HB.out | apply below_alloc | apply pw_below_drewN | apply below_drew1) | exact HB.out)) hb); clear HB; have HB := n0_; clear n0_; (try clear hb); (try clear hb2); (try clear hk); (try clear hi)))
            go_ret
            exact ⟨by first | rfl | (simp [errW_none, errW_some] <;> rfl) | (simp [*, errW_none, errW_some] <;> rfl), by repeat (first | (with_reducible first | exact HB.out | apply below_alloc | apply pw_below_drewN | apply below_drew1) | exact HB.out)⟩
          · rw [if_neg c17] at H
            have c17b0 : (true == (decide (t119 < t121))) = false := by simpa using c17
            (try (have c17b1 : decide (true = (decide (t119 < t121))) = false := by simpa using c17))
            (try (have c17b2 : (true == (decide (t119 < t121))) = false := by simpa using c17))
            (try (have c17b3 : ¬ (true = (decide (t119 < t121))) := by simpa using c17))
            clear c17
            obtain rfl := Option.some.inj H
            go_wp2
            go_ret
            exact ⟨by first | rfl | (simp [errW_none, errW_some] <;> rfl) | (simp [*, errW_none, errW_some] <;> rfl), by repeat (first | (with_reducible first | exact HB.out | apply below_alloc | apply pw_below_drewN | apply below_drew1) | exact HB.out)⟩
        · rw [if_neg c16] at H
          have c16b0 : decide (a0 < a3) = false := decide_eq_false c16
          clear c16
          by_cases c20 : a0 = a3
          · rw [if_pos c20] at H
            have c20b0 : (a0 == a3) = true := beq_iff_eq.mpr c20
            have c20b1 : (a0 != a3) = false := bne_eq_false_iff_eq.mpr c20
            clear c20
            by_cases c21 : a1 < a4
            · rw [if_pos c21] at H
              have c21b0 : decide (a1 < a4) = true := decide_eq_true c21
              clear c21
              by_cases c22 : (true == (decide (t119 < t121))) = true
              · rw [if_pos c22] at H
                have c22b0 : (true == (decide (t119 < t121))) = true := c22
                (try (have c22b1 : decide (true = (decide (t119 < t121))) = true := by simpa using c22))
                (try (have c22b2 : (true == (decide (t119 < t121))) = true := by simpa using c22))
                clear c22
                replace H := Option.bind_eq_some_iff.mp H
                obtain ⟨t125, A230, H⟩ := H
                replace H : (some t125) = some r := H
                have A23 := Aside0.mk A230
                clear A230
                obtain rfl := Option.some.inj H
                go_wp2_with (first | (go_at_call 14; (with_reducible refine (dayshiftlaw01_known.calls kj8  t125 _ A23.out).mono ?_); rintro e w24 ⟨rfl, hb⟩; have n0_ := Aside0.mk (below_step (by repeat (first | (with_reducible first | exact HB.out | apply below_alloc | apply pw_below_drewN | apply below_drew1) | exact HB.out)) hb); clear HB; have HB := n0_; clear n0_; (try clear hb); (try clear hb2); (try clear hk); (try clear hi)))
                go_ret
                exact ⟨by first | rfl | (simp [errW_none, errW_some] <;> rfl) | (simp [*, errW_none, errW_some] <;> rfl), by repeat (first | (with_reducible first | exact HB.out | apply below_alloc | apply pw_below_drewN | apply below_drew1) | exact HB.out)⟩
              · rw [if_neg c22] at H
                have c22b0 : (true == (decide (t119 < t121))) = false := by simpa using c22
                (try (have c22b1 : decide (true = (decide (t119 < t121))) = false := by simpa using c22))
                (try (have c22b2 : (true == (decide (t119 < t121))) = false := by simpa using c22))
                (try (have c22b3 : ¬ (true = (decide (t119 < t121))) := by simpa using c22))
                clear c22
                obtain rfl := Option.some.inj H
                go_wp2
                go_ret
                exact ⟨by first | rfl | (simp [errW_none, errW_some] <;> rfl) | (simp [*, errW_none, errW_some] <;> rfl), by repeat (first | (with_reducible first | exact HB.out | apply below_alloc | apply pw_below_drewN | apply below_drew1) | exact HB.out)⟩
            · rw [if_neg c21] at H
              have c21b0 : decide (a1 < a4) = false := decide_eq_false c21
              clear c21
              by_cases c25 : a1 = a4
              · rw [if_pos c25] at H
                have c25b0 : (a1 == a4) = true := beq_iff_eq.mpr c25
                have c25b1 : (a1 != a4) = false := bne_eq_false_iff_eq.mpr c25
                clear c25
                by_cases c26 : ((decide (a2 < a5)) == (decide (t119 < t121))) = true
                · rw [if_pos c26] at H
                  have c26b0 : ((decide (a2 < a5)) == (decide (t119 < t121))) = true := c26
                  (try (have c26b1 : decide ((decide (a2 < a5)) = (decide (t119 < t121))) = true := by simpa using c26))
                  (try (have c26b2 : ((decide (a2 < a5)) == (decide (t119 < t121))) = true := by simpa using c26))
                  clear c26
                  replace H := Option.bind_eq_some_iff.mp H
                  obtain ⟨t126, A270, H⟩ := H
                  replace H : (some t126) = some r := H
                  have A27 := Aside0.mk A270
                  clear A270
                  obtain rfl := Option.some.inj H
                  go_wp2_with (first | (go_at_call 14; (with_reducible refine (dayshiftlaw01_known.calls kj8  t126 _ A27.out).mono ?_); rintro e w28 ⟨rfl, hb⟩; have n0_ := Aside0.mk (below_step (by repeat (first | (with_reducible first | exact HB.out | apply below_alloc | apply pw_below_drewN | apply below_drew1) | exact HB.out)) hb); clear HB; have HB := n0_; clear n0_; (try clear hb); (try clear hb2); (try clear hk); (try clear hi)))
                  go_ret
                  exact ⟨by first | rfl | (simp [errW_none, errW_some] <;> rfl) | (simp [*, errW_none, errW_some] <;> rfl), by repeat (first | (with_reducible first | exact HB.out | apply below_alloc | apply pw_below_drewN | apply below_drew1) | exact HB.out)⟩
                · rw [if_neg c26] at H
                  have c26b0 : ((decide (a2 < a5)) == (decide (t119 < t121))) = false := by simpa using c26
                  (try (have c26b1 : decide ((decide (a2 < a5)) = (decide (t119 < t121))) = false := by simpa using c26))
                  (try (have c26b2 : ((decide (a2 < a5)) == (decide (t119 < t121))) = false := by simpa using c26))
                  (try (have c26b3 : ¬ ((decide (a2 < a5)) = (decide (t119 < t121))) := by simpa using c26))
                  clear c26
                  obtain rfl := Option.some.inj H
                  go_wp2
                  go_ret
                  exact ⟨by first | rfl | (simp [errW_none, errW_some] <;> rfl) | (simp [*, errW_none, errW_some] <;> rfl), by repeat (first | (with_reducible first | exact HB.out | apply below_alloc | apply pw_below_drewN | apply below_drew1) | exact HB.out)⟩
              · rw [if_neg c25] at H
                have c25b0 : (a1 == a4) = false := beq_eq_false_iff_ne.mpr c25
                have c25b1 : (a1 != a4) = true := bne_iff_ne.mpr c25
                by_cases c29 : (false == (decide (t119 < t121))) = true
                · rw [if_pos c29] at H
                  have c29b0 : (false == (decide (t119 < t121))) = true := c29
                  (try (have c29b1 : decide (false = (decide (t119 < t121))) = true := by simpa using c29))
                  (try (have c29b2 : (false == (decide (t119 < t121))) = true := by simpa using c29))
                  clear c29
                  replace H := Option.bind_eq_some_iff.mp H
                  obtain ⟨t127, A300, H⟩ := H
                  replace H : (some t127) = some r := H
                  have A30 := Aside0.mk A300
                  clear A300
                  obtain rfl := Option.some.inj H
                  go_wp2_with (first | (go_at_call 14; (with_reducible refine (dayshiftlaw01_known.calls kj8  t127 _ A30.out).mono ?_); rintro e w31 ⟨rfl, hb⟩; have n0_ := Aside0.mk (below_step (by repeat (first | (with_reducible first | exact HB.out | apply below_alloc | apply pw_below_drewN | apply below_drew1) | exact HB.out)) hb); clear HB; have HB := n0_; clear n0_; (try clear hb); (try clear hb2); (try clear hk); (try clear hi)))
                  go_ret
                  exact ⟨by first | rfl | (simp [errW_none, errW_some] <;> rfl) | (simp [*, errW_none, errW_some] <;> rfl), by repeat (first | (with_reducible first | exact HB.out | apply below_alloc | apply pw_below_drewN | apply below_drew1) | exact HB.out)⟩
                · rw [if_neg c29] at H
                  have c29b0 : (false == (decide (t119 < t121))) = false := by simpa using c29
                  (try (have c29b1 : decide (false = (decide (t119 < t121))) = false := by simpa using c29))
                  (try (have c29b2 : (false == (decide (t119 < t121))) = false := by simpa using c29))
                  (try (have c29b3 : ¬ (false = (decide (t119 < t121))) := by simpa using c29))
                  clear c29
                  obtain rfl := Option.some.inj H
                  go_wp2
                  go_ret
                  exact ⟨by first | rfl | (simp [errW_none, errW_some] <;> rfl) | (simp [*, errW_none, errW_some] <;> rfl), by repeat (first | (with_reducible first | exact HB.out | apply below_alloc | apply pw_below_drewN | apply below_drew1) | exact HB.out)⟩
          · rw [if_neg c20] at H
            have c20b0 : (a0 == a3) = false := beq_eq_false_iff_ne.mpr c20
            have c20b1 : (a0 != a3) = true := bne_iff_ne.mpr c20
            by_cases c32 : (false == (decide (t119 < t121))) = true
            · rw [if_pos c32] at H
              have c32b0 : (false == (decide (t119 < t121))) = true := c32
              (try (have c32b1 : decide (false = (decide (t119 < t121))) = true := by simpa using c32))
              (try (have c32b2 : (false == (decide (t119 < t121))) = true := by simpa using c32))
              clear c32
              replace H := Option.bind_eq_some_iff.mp H
              obtain ⟨t128, A330, H⟩ := H
              replace H : (some t128) = some r := H
              have A33 := Aside0.mk A330
              clear A330
              obtain rfl := Option.some.inj H
              go_wp2_with (first | (go_at_call 14; (with_reducible refine (dayshiftlaw01_known.calls kj8  t128 _ A33.out).mono ?_); rintro e w34 ⟨rfl, hb⟩; have n0_ := Aside0.mk (below_step (by repeat (first | (with_reducible first | exact HB.out | apply below_alloc | apply pw_below_drewN | apply below_drew1) | exact HB.out)) hb); clear HB; have HB := n0_; clear n0_; (try clear hb); (try clear hb2); (try clear hk); (try clear hi)))
              go_ret
              exact ⟨by first | rfl | (simp [errW_none, errW_some] <;> rfl) | (simp [*, errW_none, errW_some] <;> rfl), by repeat (first | (with_reducible first | exact HB.out | apply below_alloc | apply pw_below_drewN | apply below_drew1) | exact HB.out)⟩
            · rw [if_neg c32] at H
              have c32b0 : (false == (decide (t119 < t121))) = false := by simpa using c32
              (try (have c32b1 : decide (false = (decide (t119 < t121))) = false := by simpa using c32))
              (try (have c32b2 : (false == (decide (t119 < t121))) = false := by simpa using c32))
              (try (have c32b3 : ¬ (false = (decide (t119 < t121))) := by simpa using c32))
              clear c32
              obtain rfl := Option.some.inj H
              go_wp2
              go_ret
              exact ⟨by first | rfl | (simp [errW_none, errW_some] <;> rfl) | (simp [*, errW_none, errW_some] <;> rfl), by repeat (first | (with_reducible first | exact HB.out | apply below_alloc | apply pw_below_drewN | apply below_drew1) | exact HB.out)⟩

/-- THE ONE PURE STATEMENT of dayshiftlaw01_DateOrder: yours. -/
def dayshiftlaw01_DateOrder.Pure : Prop := ∀ (a0 : Int) (a1 : Int) (a2 : Int) (a3 : Int) (a4 : Int) (a5 : Int), (Lit.int .i64 a0).wf = true → (Lit.int .i64 a1).wf = true → (Lit.int .i64 a2).wf = true → (Lit.int .i64 a3).wf = true → (Lit.int .i64 a4).wf = true → (Lit.int .i64 a5).wf = true → ∃ k, dayshiftlaw01_DateOrder.f k a0 a1 a2 a3 a4 a5 = some true
theorem dayshiftlaw01_DateOrder.walk (P : dayshiftlaw01_DateOrder.Pure) (a0 : Int) (a1 : Int) (a2 : Int) (a3 : Int) (a4 : Int) (a5 : Int) (w : World) (w0 : (Lit.int .i64 a0).wf = true) (w1 : (Lit.int .i64 a1).wf = true) (w2 : (Lit.int .i64 a2).wf = true) (w3 : (Lit.int .i64 a3).wf = true) (w4 : (Lit.int .i64 a4).wf = true) (w5 : (Lit.int .i64 a5).wf = true) :
    Calls Try.prog 5 #[.int .i64 a0, .int .i64 a1, .int .i64 a2, .int .i64 a3, .int .i64 a4, .int .i64 a5] w fun e w' => e = .returned (.bool true) ∧ Below w.heap.size w w' := by
  obtain ⟨k, h⟩ := P a0 a1 a2 a3 a4 a5 w0 w1 w2 w3 w4 w5
  refine (dayshiftlaw01_DateOrder.calls k a0 a1 a2 a3 a4 a5 true w h).mono ?_
  rintro e w' ⟨rfl, hd⟩
  exact ⟨rfl, hd⟩

end Go.Proofs.Ytkeecpgfpoaplaa.PDateOrder
