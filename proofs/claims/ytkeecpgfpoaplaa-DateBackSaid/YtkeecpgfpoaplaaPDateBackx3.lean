/- This text holds, for Go functions of the given program, Lean functions with the same answers, and proofs that the machine's calls come to these answers; each theorem names its own conditions. It was laid by a program of this session. -/
import Derived.Test.YtkeecpgfpoaplaaPDateBackx0
import Derived.Test.YtkeecpgfpoaplaaPDateBackx1
import Derived.Test.YtkeecpgfpoaplaaPDateBackx2
namespace Go.Proofs.Ytkeecpgfpoaplaa.PDateBack
open Go.RowKit Go.Proofs.YtkeecpgfpoaplaaW.PrintWords Go.Proofs.YtkeecpgfpoaplaaW.PrintLast Go.Proofs.YtkeecpgfpoaplaaW.PrintMore
attribute [local go_sem] max2_int min2_int max_two min_two max_three min_three max_four min_four   -- for this text's walks alone
set_option linter.unusedVariables false
set_option linter.unusedSimpArgs false

/-! ### dayshiftlaw01_DateBack: function 7 -/
def dayshiftlaw01_DateBack.j0 : Nat → Int → Int → Int → Int → Bool → Option (Bool)
  | 0, _, _, _, _, _ => none
  | k + 1, x0, x3, x4, x5, x68 => if x68 = true then (some false) else ((date_Date.f k (wrap64 (x0 + 1))).bind fun bt133 => (if bt133.2.2.2 = 0 then (if bt133.1 = x3 then (if bt133.2.1 = x4 then (if bt133.2.2.1 = (wrap64 (x5 + 1)) then ((dayshiftlaw01_known.f k).bind fun t137 => (some t137)) else (if bt133.2.1 = (wrap64 (x4 + 1)) then (if bt133.2.2.1 = 1 then ((date_Len.f x3 x4).bind fun t138 => (if x5 = t138 then ((dayshiftlaw01_known.f k).bind fun t139 => (some t139)) else (if bt133.1 = (wrap64 (x3 + 1)) then (if bt133.2.1 = 1 then (if x4 = 12 then (if x5 = 31 then ((dayshiftlaw01_known.f k).bind fun t140 => (some t140)) else (some false)) else (some false)) else (some false)) else (some false)))) else (if bt133.1 = (wrap64 (x3 + 1)) then (if bt133.2.1 = 1 then (some false) else (some false)) else (some false))) else (if bt133.1 = (wrap64 (x3 + 1)) then (if bt133.2.1 = 1 then (if bt133.2.2.1 = 1 then (if x4 = 12 then (if x5 = 31 then ((dayshiftlaw01_known.f k).bind fun t141 => (some t141)) else (some false)) else (some false)) else (some false)) else (some false)) else (some false)))) else (if bt133.2.1 = (wrap64 (x4 + 1)) then (if bt133.2.2.1 = 1 then ((date_Len.f x3 x4).bind fun t142 => (if x5 = t142 then ((dayshiftlaw01_known.f k).bind fun t143 => (some t143)) else (if bt133.1 = (wrap64 (x3 + 1)) then (if bt133.2.1 = 1 then (if x4 = 12 then (if x5 = 31 then ((dayshiftlaw01_known.f k).bind fun t144 => (some t144)) else (some false)) else (some false)) else (some false)) else (some false)))) else (if bt133.1 = (wrap64 (x3 + 1)) then (if bt133.2.1 = 1 then (some false) else (some false)) else (some false))) else (if bt133.1 = (wrap64 (x3 + 1)) then (if bt133.2.1 = 1 then (if bt133.2.2.1 = 1 then (if x4 = 12 then (if x5 = 31 then ((dayshiftlaw01_known.f k).bind fun t145 => (some t145)) else (some false)) else (some false)) else (some false)) else (some false)) else (some false)))) else (if bt133.1 = (wrap64 (x3 + 1)) then (if bt133.2.1 = 1 then (if bt133.2.2.1 = 1 then (if x4 = 12 then (if x5 = 31 then ((dayshiftlaw01_known.f k).bind fun t146 => (some t146)) else (some false)) else (some false)) else (some false)) else (some false)) else (some false))) else (if x0 = 3652059 then ((dayshiftlaw01_known.f k).bind fun t147 => (some t147)) else (some false))))
def dayshiftlaw01_DateBack.f (k : Nat) (a0 : Int) : Option (Bool) := (date_Date.f k a0).bind fun bt121 => (if bt121.2.2.2 = 0 then ((date_Days.f k bt121.1 bt121.2.1 bt121.2.2.1).bind fun bt127 => ((date_Text.f k a0).bind fun bt129 => ((date_Read.f k bt129.1).bind fun bt131 => (if bt127.1 = a0 then (if bt127.2 = 0 then (if bt129.2 = 0 then (if bt131.1 = a0 then (dayshiftlaw01_DateBack.j0 k a0 bt121.1 bt121.2.1 bt121.2.2.1 (bt131.2 != 0)) else (dayshiftlaw01_DateBack.j0 k a0 bt121.1 bt121.2.1 bt121.2.2.1 true)) else (dayshiftlaw01_DateBack.j0 k a0 bt121.1 bt121.2.1 bt121.2.2.1 true)) else (dayshiftlaw01_DateBack.j0 k a0 bt121.1 bt121.2.1 bt121.2.2.1 true)) else (dayshiftlaw01_DateBack.j0 k a0 bt121.1 bt121.2.1 bt121.2.2.1 true))))) else ((dayshiftref01_Right.f a0).bind fun t125 => (if t125 = true then (some false) else ((dayshiftlaw01_known.f k).bind fun t126 => (some t126)))))
theorem dayshiftlaw01_DateBack.mono_l : ∀ k, (∀ y0 y1 y2 y3 y4, LeO (dayshiftlaw01_DateBack.j0 k y0 y1 y2 y3 y4) (dayshiftlaw01_DateBack.j0 (k + 1) y0 y1 y2 y3 y4))
  | 0 => fun _ _ _ _ _ r h => by simp [dayshiftlaw01_DateBack.j0] at h
  | k + 1 => by
    have ih0 := dayshiftlaw01_DateBack.mono_l k
    · intro y0 y1 y2 y3 y4
      unfold dayshiftlaw01_DateBack.j0
      repeat' first
      | (with_reducible exact ih0 _ _ _ _ _)
      | (with_reducible exact date_Date.mono _ _)
      | (with_reducible exact date_Days.mono _ _ _ _)
      | (with_reducible exact date_Read.mono _ _)
      | (with_reducible exact date_Text.mono _ _)
      | (with_reducible exact dayshiftlaw01_known.mono _)
      | (with_reducible exact LeO.refl _)
      | (with_reducible exact LeO.none _)
      | (with_reducible refine LeO.ite ?_ ?_)
      | (with_reducible refine LeO.bind ?_ (fun _ => ?_))
      | exact ih0 _ _ _ _ _
      | exact date_Date.mono _ _
      | exact date_Days.mono _ _ _ _
      | exact date_Read.mono _ _
      | exact date_Text.mono _ _
      | exact dayshiftlaw01_known.mono _
      | exact LeO.none _
      | refine LeO.ite ?_ ?_
      | refine LeO.bind ?_ (fun _ => ?_)
theorem dayshiftlaw01_DateBack.mono : ∀ a0 k, LeO (dayshiftlaw01_DateBack.f k a0) (dayshiftlaw01_DateBack.f (k + 1) a0) := by
  intro a0 k
  have ih0 := dayshiftlaw01_DateBack.mono_l k
  unfold dayshiftlaw01_DateBack.f
  repeat' first
      | (with_reducible exact ih0 _ _ _ _ _)
      | (with_reducible exact date_Date.mono _ _)
      | (with_reducible exact date_Days.mono _ _ _ _)
      | (with_reducible exact date_Read.mono _ _)
      | (with_reducible exact date_Text.mono _ _)
      | (with_reducible exact dayshiftlaw01_known.mono _)
      | (with_reducible exact LeO.refl _)
      | (with_reducible exact LeO.none _)
      | (with_reducible refine LeO.ite ?_ ?_)
      | (with_reducible refine LeO.bind ?_ (fun _ => ?_))
      | exact ih0 _ _ _ _ _
      | exact date_Date.mono _ _
      | exact date_Days.mono _ _ _ _
      | exact date_Read.mono _ _
      | exact date_Text.mono _ _
      | exact dayshiftlaw01_known.mono _
      | exact LeO.none _
      | refine LeO.ite ?_ ?_
      | refine LeO.bind ?_ (fun _ => ?_)
set_option maxHeartbeats 8000000 in
set_option maxRecDepth 100000 in
theorem dayshiftlaw01_DateBack.calls (k : Nat) (a0 : Int) (r : Bool) (w : World) (h : dayshiftlaw01_DateBack.f k a0 = some r) :
    Calls Try.prog 7 #[.int .i64 a0] w fun e w' => e = .returned (.bool r) ∧ Below w.heap.size w w' := by
  have HB := Aside0.mk (Below.refl w.heap.size w)
  have H : ((date_Date.f k a0).bind fun bt121 => (if bt121.2.2.2 = 0 then ((date_Days.f k bt121.1 bt121.2.1 bt121.2.2.1).bind fun bt127 => ((date_Text.f k a0).bind fun bt129 => ((date_Read.f k bt129.1).bind fun bt131 => (if bt127.1 = a0 then (if bt127.2 = 0 then (if bt129.2 = 0 then (if bt131.1 = a0 then (dayshiftlaw01_DateBack.j0 k a0 bt121.1 bt121.2.1 bt121.2.2.1 (bt131.2 != 0)) else (dayshiftlaw01_DateBack.j0 k a0 bt121.1 bt121.2.1 bt121.2.2.1 true)) else (dayshiftlaw01_DateBack.j0 k a0 bt121.1 bt121.2.1 bt121.2.2.1 true)) else (dayshiftlaw01_DateBack.j0 k a0 bt121.1 bt121.2.1 bt121.2.2.1 true)) else (dayshiftlaw01_DateBack.j0 k a0 bt121.1 bt121.2.1 bt121.2.2.1 true))))) else ((dayshiftref01_Right.f a0).bind fun t125 => (if t125 = true then (some false) else ((dayshiftlaw01_known.f k).bind fun t126 => (some t126)))))) = some r := h
  clear h
  replace H := Option.bind_eq_some_iff.mp H
  obtain ⟨⟨t121, t122, t123, t124⟩, A20, H⟩ := H
  replace H : (if t124 = 0 then ((date_Days.f k t121 t122 t123).bind fun bt127 => ((date_Text.f k a0).bind fun bt129 => ((date_Read.f k bt129.1).bind fun bt131 => (if bt127.1 = a0 then (if bt127.2 = 0 then (if bt129.2 = 0 then (if bt131.1 = a0 then (dayshiftlaw01_DateBack.j0 k a0 t121 t122 t123 (bt131.2 != 0)) else (dayshiftlaw01_DateBack.j0 k a0 t121 t122 t123 true)) else (dayshiftlaw01_DateBack.j0 k a0 t121 t122 t123 true)) else (dayshiftlaw01_DateBack.j0 k a0 t121 t122 t123 true)) else (dayshiftlaw01_DateBack.j0 k a0 t121 t122 t123 true))))) else ((dayshiftref01_Right.f a0).bind fun t125 => (if t125 = true then (some false) else ((dayshiftlaw01_known.f k).bind fun t126 => (some t126))))) = some r := H
  have A2 := Aside0.mk A20
  clear A20
  by_cases c3 : t124 = 0
  · rw [if_pos c3] at H
    have c3b0 : (t124 == 0) = true := beq_iff_eq.mpr c3
    have c3b1 : (t124 != 0) = false := bne_eq_false_iff_eq.mpr c3
    clear c3
    replace H := Option.bind_eq_some_iff.mp H
    obtain ⟨⟨t127, t128⟩, A40, H⟩ := H
    replace H : ((date_Text.f k a0).bind fun bt129 => ((date_Read.f k bt129.1).bind fun bt131 => (if t127 = a0 then (if t128 = 0 then (if bt129.2 = 0 then (if bt131.1 = a0 then (dayshiftlaw01_DateBack.j0 k a0 t121 t122 t123 (bt131.2 != 0)) else (dayshiftlaw01_DateBack.j0 k a0 t121 t122 t123 true)) else (dayshiftlaw01_DateBack.j0 k a0 t121 t122 t123 true)) else (dayshiftlaw01_DateBack.j0 k a0 t121 t122 t123 true)) else (dayshiftlaw01_DateBack.j0 k a0 t121 t122 t123 true)))) = some r := H
    have A4 := Aside0.mk A40
    clear A40
    replace H := Option.bind_eq_some_iff.mp H
    obtain ⟨⟨t129, t130⟩, A50, H⟩ := H
    replace H : ((date_Read.f k t129).bind fun bt131 => (if t127 = a0 then (if t128 = 0 then (if t130 = 0 then (if bt131.1 = a0 then (dayshiftlaw01_DateBack.j0 k a0 t121 t122 t123 (bt131.2 != 0)) else (dayshiftlaw01_DateBack.j0 k a0 t121 t122 t123 true)) else (dayshiftlaw01_DateBack.j0 k a0 t121 t122 t123 true)) else (dayshiftlaw01_DateBack.j0 k a0 t121 t122 t123 true)) else (dayshiftlaw01_DateBack.j0 k a0 t121 t122 t123 true))) = some r := H
    have A5 := Aside0.mk A50
    clear A50
    replace H := Option.bind_eq_some_iff.mp H
    obtain ⟨⟨t131, t132⟩, A60, H⟩ := H
    replace H : (if t127 = a0 then (if t128 = 0 then (if t130 = 0 then (if t131 = a0 then (dayshiftlaw01_DateBack.j0 k a0 t121 t122 t123 (t132 != 0)) else (dayshiftlaw01_DateBack.j0 k a0 t121 t122 t123 true)) else (dayshiftlaw01_DateBack.j0 k a0 t121 t122 t123 true)) else (dayshiftlaw01_DateBack.j0 k a0 t121 t122 t123 true)) else (dayshiftlaw01_DateBack.j0 k a0 t121 t122 t123 true)) = some r := H
    have A6 := Aside0.mk A60
    clear A60
    have HC7 := Aside0.mk H
    clear H
    go_enter Try.func7, Try.ntmps7
    go_upto_region 7 with (first | ((with_reducible refine gate_callee (f := 15) rfl ?_); refine goesL_ (some 19) rfl rfl Try.func15 (by kernel_rfl) rfl #[.int .i64 a0] rfl (by (try simp only [List.map_toArray, List.map_cons, List.map_nil]); first | done | rfl | (simp only [List.length_drop, List.length_take]; rfl)) ?_; (with_reducible refine (date_Date.calls k a0 t121 t122 t123 t124 _ A2.out).mono ?_); rintro e w8 ⟨rfl, hb⟩; refine ⟨_, rfl, ?_⟩; have n0_ := Aside0.mk (below_step (by repeat (first | (with_reducible first | exact HB.out | apply below_alloc | apply pw_below_drewN | apply below_drew1) | exact HB.out)) hb); clear HB; have HB := n0_; clear n0_; (try clear hb); (try clear hb2); (try clear hk); (try clear hi)) | ((with_reducible refine gate_callee (f := 8) rfl ?_); refine goesL_ (some 36) rfl rfl Try.func8 (by kernel_rfl) rfl #[.int .i64 t121, .int .i64 t122, .int .i64 t123] rfl (by (try simp only [List.map_toArray, List.map_cons, List.map_nil]); first | done | rfl | (simp only [List.length_drop, List.length_take]; rfl)) ?_; (with_reducible refine (date_Days.calls k t121 t122 t123 t127 t128 _ A4.out).mono ?_); rintro e w9 ⟨rfl, hb⟩; refine ⟨_, rfl, ?_⟩; have n0_ := Aside0.mk (below_step (by repeat (first | (with_reducible first | exact HB.out | apply below_alloc | apply pw_below_drewN | apply below_drew1) | exact HB.out)) hb); clear HB; have HB := n0_; clear n0_; (try clear hb); (try clear hb2); (try clear hk); (try clear hi)) | ((with_reducible refine gate_callee (f := 21) rfl ?_); refine goesL_ (some 41) rfl rfl Try.func21 (by kernel_rfl) rfl #[.int .i64 a0] rfl (by (try simp only [List.map_toArray, List.map_cons, List.map_nil]); first | done | rfl | (simp only [List.length_drop, List.length_take]; rfl)) ?_; (with_reducible refine (date_Text.calls k a0 t129 t130 _ A5.out).mono ?_); rintro e w10 ⟨rfl, hb⟩; refine ⟨_, rfl, ?_⟩; have n0_ := Aside0.mk (below_step (by repeat (first | (with_reducible first | exact HB.out | apply below_alloc | apply pw_below_drewN | apply below_drew1) | exact HB.out)) hb); clear HB; have HB := n0_; clear n0_; (try clear hb); (try clear hb2); (try clear hk); (try clear hi)) | ((with_reducible refine gate_callee (f := 23) rfl ?_); refine goesL_ (some 46) rfl rfl Try.func23 (by kernel_rfl) rfl #[.string t129] rfl (by (try simp only [List.map_toArray, List.map_cons, List.map_nil]); first | done | rfl | (simp only [List.length_drop, List.length_take]; rfl)) ?_; (with_reducible refine (date_Read.calls k t129 t131 t132 _ A6.out).mono ?_); rintro e w11 ⟨rfl, hb⟩; refine ⟨_, rfl, ?_⟩; have n0_ := Aside0.mk (below_step (by repeat (first | (with_reducible first | exact HB.out | apply below_alloc | apply pw_below_drewN | apply below_drew1) | exact HB.out)) hb); clear HB; have HB := n0_; clear n0_; (try clear hb); (try clear hb2); (try clear hk); (try clear hi)))
    (try simp only [Act.put, List.setIfInBounds_toArray, List.set_cons_zero, List.set_cons_succ])
    go_cut [68] (fun v68 wc => ∃ (kq : Nat) (x68_6 : Bool), v68 = .bool x68_6 ∧ Aside0 (dayshiftlaw01_DateBack.j0 kq a0 t121 t122 t123 x68_6 = some r) ∧ Aside0 (kq ≤ k) ∧ Aside0 (Below w.heap.size w wc))
    case first =>
      have H := HC7.out
      clear HC7
      by_cases c12 : t127 = a0
      · rw [if_pos c12] at H
        have c12b0 : (t127 == a0) = true := beq_iff_eq.mpr c12
        have c12b1 : (t127 != a0) = false := bne_eq_false_iff_eq.mpr c12
        clear c12
        (first | rw [c12b0] | (simp only [i64_w, i32_w]; rw [c12b0]) | skip)
        by_cases c13 : t128 = 0
        · rw [if_pos c13] at H
          have c13b0 : (t128 == 0) = true := beq_iff_eq.mpr c13
          have c13b1 : (t128 != 0) = false := bne_eq_false_iff_eq.mpr c13
          clear c13
          by_cases c14 : t130 = 0
          · rw [if_pos c14] at H
            have c14b0 : (t130 == 0) = true := beq_iff_eq.mpr c14
            have c14b1 : (t130 != 0) = false := bne_eq_false_iff_eq.mpr c14
            clear c14
            by_cases c15 : t131 = a0
            · rw [if_pos c15] at H
              have c15b0 : (t131 == a0) = true := beq_iff_eq.mpr c15
              have c15b1 : (t131 != a0) = false := bne_eq_false_iff_eq.mpr c15
              clear c15
              have H' := Aside0.mk H
              clear H
              go_wp2
              go_meet
              case rel => exact ⟨_, ((t132 != 0)), (by first | rfl | (simp; done) | (simp [*]; done)), H', ⟨by first | omega | exact Nat.le_refl _⟩, ⟨by repeat (first | (with_reducible first | exact HB.out | apply below_alloc | apply pw_below_drewN | apply below_drew1) | exact HB.out)⟩⟩
            · rw [if_neg c15] at H
              have c15b0 : (t131 == a0) = false := beq_eq_false_iff_ne.mpr c15
              have c15b1 : (t131 != a0) = true := bne_iff_ne.mpr c15
              have H' := Aside0.mk H
              clear H
              go_wp2
              go_meet
              case rel => exact ⟨_, (true), (by first | rfl | (simp; done) | (simp [*]; done)), H', ⟨by first | omega | exact Nat.le_refl _⟩, ⟨by repeat (first | (with_reducible first | exact HB.out | apply below_alloc | apply pw_below_drewN | apply below_drew1) | exact HB.out)⟩⟩
          · rw [if_neg c14] at H
            have c14b0 : (t130 == 0) = false := beq_eq_false_iff_ne.mpr c14
            have c14b1 : (t130 != 0) = true := bne_iff_ne.mpr c14
            have H' := Aside0.mk H
            clear H
            go_wp2
            go_meet
            case rel => exact ⟨_, (true), (by first | rfl | (simp; done) | (simp [*]; done)), H', ⟨by first | omega | exact Nat.le_refl _⟩, ⟨by repeat (first | (with_reducible first | exact HB.out | apply below_alloc | apply pw_below_drewN | apply below_drew1) | exact HB.out)⟩⟩
        · rw [if_neg c13] at H
          have c13b0 : (t128 == 0) = false := beq_eq_false_iff_ne.mpr c13
          have c13b1 : (t128 != 0) = true := bne_iff_ne.mpr c13
          have H' := Aside0.mk H
          clear H
          go_wp2
          go_meet
          case rel => exact ⟨_, (true), (by first | rfl | (simp; done) | (simp [*]; done)), H', ⟨by first | omega | exact Nat.le_refl _⟩, ⟨by repeat (first | (with_reducible first | exact HB.out | apply below_alloc | apply pw_below_drewN | apply below_drew1) | exact HB.out)⟩⟩
      · rw [if_neg c12] at H
        have c12b0 : (t127 == a0) = false := beq_eq_false_iff_ne.mpr c12
        have c12b1 : (t127 != a0) = true := bne_iff_ne.mpr c12
        (first | rw [c12b0] | (simp only [i64_w, i32_w]; rw [c12b0]) | skip)
        have H' := Aside0.mk H
        clear H
        go_wp2
        go_meet
        case rel => exact ⟨_, (true), (by first | rfl | (simp; done) | (simp [*]; done)), H', ⟨by first | omega | exact Nat.le_refl _⟩, ⟨by repeat (first | (with_reducible first | exact HB.out | apply below_alloc | apply pw_below_drewN | apply below_drew1) | exact HB.out)⟩⟩
    case rest =>
      clear HC7
      try clear c1
      try clear c2
      try clear p2
      try clear c3
      try clear c3b0
      try clear c3b1
      try clear c7
      try clear c8
      try clear c12
      try clear c12b0
      try clear c12b1
      try clear c13
      try clear c13b0
      try clear c13b1
      try clear c14
      try clear c14b0
      try clear c14b1
      try clear c15
      try clear c15b0
      try clear c15b1
      obtain ⟨kq, x68_6, rfl, HA, HJ6, HB⟩ := hcut
      cases kq with
      | zero => exact absurd HA.out (by simp [dayshiftlaw01_DateBack.j0])
      | succ kj6 =>
        have H := HA.out
        clear HA
        simp only [dayshiftlaw01_DateBack.j0] at H
        by_cases c16 : x68_6 = true
        · subst c16
          have H1 : (some false) = some r := by rw [if_pos rfl] at H; exact H
          clear H
          have H := H1
          clear H1
          obtain rfl := Option.some.inj H
          go_wp2
          go_ret
          exact ⟨by first | rfl | (simp [errW_none, errW_some] <;> rfl) | (simp [*, errW_none, errW_some] <;> rfl), by repeat (first | (with_reducible first | exact HB.out | apply below_alloc | apply pw_below_drewN | apply below_drew1) | exact HB.out)⟩
        · replace c16 := Bool.eq_false_iff.mpr c16
          subst c16
          have H1 : ((date_Date.f kj6 (wrap64 (a0 + 1))).bind fun bt133 => (if bt133.2.2.2 = 0 then (if bt133.1 = t121 then (if bt133.2.1 = t122 then (if bt133.2.2.1 = (wrap64 (t123 + 1)) then ((dayshiftlaw01_known.f kj6).bind fun t137 => (some t137)) else (if bt133.2.1 = (wrap64 (t122 + 1)) then (if bt133.2.2.1 = 1 then ((date_Len.f t121 t122).bind fun t138 => (if t123 = t138 then ((dayshiftlaw01_known.f kj6).bind fun t139 => (some t139)) else (if bt133.1 = (wrap64 (t121 + 1)) then (if bt133.2.1 = 1 then (if t122 = 12 then (if t123 = 31 then ((dayshiftlaw01_known.f kj6).bind fun t140 => (some t140)) else (some false)) else (some false)) else (some false)) else (some false)))) else (if bt133.1 = (wrap64 (t121 + 1)) then (if bt133.2.1 = 1 then (some false) else (some false)) else (some false))) else (if bt133.1 = (wrap64 (t121 + 1)) then (if bt133.2.1 = 1 then (if bt133.2.2.1 = 1 then (if t122 = 12 then (if t123 = 31 then ((dayshiftlaw01_known.f kj6).bind fun t141 => (some t141)) else (some false)) else (some false)) else (some false)) else (some false)) else (some false)))) else (if bt133.2.1 = (wrap64 (t122 + 1)) then (if bt133.2.2.1 = 1 then ((date_Len.f t121 t122).bind fun t142 => (if t123 = t142 then ((dayshiftlaw01_known.f kj6).bind fun t143 => (some t143)) else (if bt133.1 = (wrap64 (t121 + 1)) then (if bt133.2.1 = 1 then (if t122 = 12 then (if t123 = 31 then ((dayshiftlaw01_known.f kj6).bind fun t144 => (some t144)) else (some false)) else (some false)) else (some false)) else (some false)))) else (if bt133.1 = (wrap64 (t121 + 1)) then (if bt133.2.1 = 1 then (some false) else (some false)) else (some false))) else (if bt133.1 = (wrap64 (t121 + 1)) then (if bt133.2.1 = 1 then (if bt133.2.2.1 = 1 then (if t122 = 12 then (if t123 = 31 then ((dayshiftlaw01_known.f kj6).bind fun t145 => (some t145)) else (some false)) else (some false)) else (some false)) else (some false)) else (some false)))) else (if bt133.1 = (wrap64 (t121 + 1)) then (if bt133.2.1 = 1 then (if bt133.2.2.1 = 1 then (if t122 = 12 then (if t123 = 31 then ((dayshiftlaw01_known.f kj6).bind fun t146 => (some t146)) else (some false)) else (some false)) else (some false)) else (some false)) else (some false))) else (if a0 = 3652059 then ((dayshiftlaw01_known.f kj6).bind fun t147 => (some t147)) else (some false)))) = some r := by rw [if_neg (show ¬ (false = true) by decide)] at H; exact H
          clear H
          have H := H1
          clear H1
          replace H := Option.bind_eq_some_iff.mp H
          obtain ⟨⟨t133, t134, t135, t136⟩, A170, H⟩ := H
          replace H : (if t136 = 0 then (if t133 = t121 then (if t134 = t122 then (if t135 = (wrap64 (t123 + 1)) then ((dayshiftlaw01_known.f kj6).bind fun t137 => (some t137)) else (if t134 = (wrap64 (t122 + 1)) then (if t135 = 1 then ((date_Len.f t121 t122).bind fun t138 => (if t123 = t138 then ((dayshiftlaw01_known.f kj6).bind fun t139 => (some t139)) else (if t133 = (wrap64 (t121 + 1)) then (if t134 = 1 then (if t122 = 12 then (if t123 = 31 then ((dayshiftlaw01_known.f kj6).bind fun t140 => (some t140)) else (some false)) else (some false)) else (some false)) else (some false)))) else (if t133 = (wrap64 (t121 + 1)) then (if t134 = 1 then (some false) else (some false)) else (some false))) else (if t133 = (wrap64 (t121 + 1)) then (if t134 = 1 then (if t135 = 1 then (if t122 = 12 then (if t123 = 31 then ((dayshiftlaw01_known.f kj6).bind fun t141 => (some t141)) else (some false)) else (some false)) else (some false)) else (some false)) else (some false)))) else (if t134 = (wrap64 (t122 + 1)) then (if t135 = 1 then ((date_Len.f t121 t122).bind fun t142 => (if t123 = t142 then ((dayshiftlaw01_known.f kj6).bind fun t143 => (some t143)) else (if t133 = (wrap64 (t121 + 1)) then (if t134 = 1 then (if t122 = 12 then (if t123 = 31 then ((dayshiftlaw01_known.f kj6).bind fun t144 => (some t144)) else (some false)) else (some false)) else (some false)) else (some false)))) else (if t133 = (wrap64 (t121 + 1)) then (if t134 = 1 then (some false) else (some false)) else (some false))) else (if t133 = (wrap64 (t121 + 1)) then (if t134 = 1 then (if t135 = 1 then (if t122 = 12 then (if t123 = 31 then ((dayshiftlaw01_known.f kj6).bind fun t145 => (some t145)) else (some false)) else (some false)) else (some false)) else (some false)) else (some false)))) else (if t133 = (wrap64 (t121 + 1)) then (if t134 = 1 then (if t135 = 1 then (if t122 = 12 then (if t123 = 31 then ((dayshiftlaw01_known.f kj6).bind fun t146 => (some t146)) else (some false)) else (some false)) else (some false)) else (some false)) else (some false))) else (if a0 = 3652059 then ((dayshiftlaw01_known.f kj6).bind fun t147 => (some t147)) else (some false))) = some r := H
          have A17 := Aside0.mk A170
          clear A170
          by_cases c18 : t136 = 0
          · rw [if_pos c18] at H
            have c18b0 : (t136 == 0) = true := beq_iff_eq.mpr c18
            have c18b1 : (t136 != 0) = false := bne_eq_false_iff_eq.mpr c18
            clear c18
            by_cases c19 : t133 = t121
            · rw [if_pos c19] at H
              have c19b0 : (t133 == t121) = true := beq_iff_eq.mpr c19
              have c19b1 : (t133 != t121) = false := bne_eq_false_iff_eq.mpr c19
              clear c19
              by_cases c20 : t134 = t122
              · rw [if_pos c20] at H
                have c20b0 : (t134 == t122) = true := beq_iff_eq.mpr c20
                have c20b1 : (t134 != t122) = false := bne_eq_false_iff_eq.mpr c20
                clear c20
                by_cases c21 : t135 = (wrap64 (t123 + 1))
                · rw [if_pos c21] at H
                  have c21b0 : (t135 == (wrap64 (t123 + 1))) = true := beq_iff_eq.mpr c21
                  have c21b1 : (t135 != (wrap64 (t123 + 1))) = false := bne_eq_false_iff_eq.mpr c21
                  clear c21
                  replace H := Option.bind_eq_some_iff.mp H
                  obtain ⟨t137, A220, H⟩ := H
                  replace H : (some t137) = some r := H
                  have A22 := Aside0.mk A220
                  clear A220
                  obtain rfl := Option.some.inj H
                  go_wp2_with (first | ((with_reducible refine gate_callee (f := 15) rfl ?_); refine goesL_ (some 72) rfl rfl Try.func15 (by kernel_rfl) rfl #[.int .i64 (wrap64 (a0 + 1))] rfl (by (try simp only [List.map_toArray, List.map_cons, List.map_nil]); first | done | rfl | (simp only [List.length_drop, List.length_take]; rfl)) ?_; (with_reducible refine (date_Date.calls kj6 (wrap64 (a0 + 1)) t133 t134 t135 t136 _ A17.out).mono ?_); rintro e w23 ⟨rfl, hb⟩; refine ⟨_, rfl, ?_⟩; have n0_ := Aside0.mk (below_step (by repeat (first | (with_reducible first | exact HB.out | apply below_alloc | apply pw_below_drewN | apply below_drew1) | exact HB.out)) hb); clear HB; have HB := n0_; clear n0_; (try clear hb); (try clear hb2); (try clear hk); (try clear hi)) | (go_at_call 14; (with_reducible refine (dayshiftlaw01_known.calls kj6  t137 _ A22.out).mono ?_); rintro e w24 ⟨rfl, hb⟩; have n0_ := Aside0.mk (below_step (by repeat (first | (with_reducible first | exact HB.out | apply below_alloc | apply pw_below_drewN | apply below_drew1) | exact HB.out)) hb); clear HB; have HB := n0_; clear n0_; (try clear hb); (try clear hb2); (try clear hk); (try clear hi)))
                  go_ret
                  exact ⟨by first | rfl | (simp [errW_none, errW_some] <;> rfl) | (simp [*, errW_none, errW_some] <;> rfl), by repeat (first | (with_reducible first | exact HB.out | apply below_alloc | apply pw_below_drewN | apply below_drew1) | exact HB.out)⟩
                · rw [if_neg c21] at H
                  have c21b0 : (t135 == (wrap64 (t123 + 1))) = false := beq_eq_false_iff_ne.mpr c21
                  have c21b1 : (t135 != (wrap64 (t123 + 1))) = true := bne_iff_ne.mpr c21
                  by_cases c25 : t134 = (wrap64 (t122 + 1))
                  · rw [if_pos c25] at H
                    have c25b0 : (t134 == (wrap64 (t122 + 1))) = true := beq_iff_eq.mpr c25
                    have c25b1 : (t134 != (wrap64 (t122 + 1))) = false := bne_eq_false_iff_eq.mpr c25
                    clear c25
                    by_cases c26 : t135 = 1
                    · rw [if_pos c26] at H
                      have c26b0 : (t135 == 1) = true := beq_iff_eq.mpr c26
                      have c26b1 : (t135 != 1) = false := bne_eq_false_iff_eq.mpr c26
                      clear c26
                      replace H := Option.bind_eq_some_iff.mp H
                      obtain ⟨t138, A270, H⟩ := H
                      replace H : (if t123 = t138 then ((dayshiftlaw01_known.f kj6).bind fun t139 => (some t139)) else (if t133 = (wrap64 (t121 + 1)) then (if t134 = 1 then (if t122 = 12 then (if t123 = 31 then ((dayshiftlaw01_known.f kj6).bind fun t140 => (some t140)) else (some false)) else (some false)) else (some false)) else (some false))) = some r := H
                      have A27 := Aside0.mk A270
                      clear A270
                      by_cases c28 : t123 = t138
                      · rw [if_pos c28] at H
                        have c28b0 : (t123 == t138) = true := beq_iff_eq.mpr c28
                        have c28b1 : (t123 != t138) = false := bne_eq_false_iff_eq.mpr c28
                        clear c28
                        replace H := Option.bind_eq_some_iff.mp H
                        obtain ⟨t139, A290, H⟩ := H
                        replace H : (some t139) = some r := H
                        have A29 := Aside0.mk A290
                        clear A290
                        obtain rfl := Option.some.inj H
                        go_wp2_with (first | ((with_reducible refine gate_callee (f := 15) rfl ?_); refine goesL_ (some 72) rfl rfl Try.func15 (by kernel_rfl) rfl #[.int .i64 (wrap64 (a0 + 1))] rfl (by (try simp only [List.map_toArray, List.map_cons, List.map_nil]); first | done | rfl | (simp only [List.length_drop, List.length_take]; rfl)) ?_; (with_reducible refine (date_Date.calls kj6 (wrap64 (a0 + 1)) t133 t134 t135 t136 _ A17.out).mono ?_); rintro e w30 ⟨rfl, hb⟩; refine ⟨_, rfl, ?_⟩; have n0_ := Aside0.mk (below_step (by repeat (first | (with_reducible first | exact HB.out | apply below_alloc | apply pw_below_drewN | apply below_drew1) | exact HB.out)) hb); clear HB; have HB := n0_; clear n0_; (try clear hb); (try clear hb2); (try clear hk); (try clear hi)) | (go_at_call 12; (with_reducible refine (date_Len.calls t121 t122 t138 _ A27.out).mono ?_); rintro e w31 ⟨rfl, hb⟩; have n0_ := Aside0.mk (below_step (by repeat (first | (with_reducible first | exact HB.out | apply below_alloc | apply pw_below_drewN | apply below_drew1) | exact HB.out)) hb); clear HB; have HB := n0_; clear n0_; (try clear hb); (try clear hb2); (try clear hk); (try clear hi)) | (go_at_call 14; (with_reducible refine (dayshiftlaw01_known.calls kj6  t139 _ A29.out).mono ?_); rintro e w32 ⟨rfl, hb⟩; have n0_ := Aside0.mk (below_step (by repeat (first | (with_reducible first | exact HB.out | apply below_alloc | apply pw_below_drewN | apply below_drew1) | exact HB.out)) hb); clear HB; have HB := n0_; clear n0_; (try clear hb); (try clear hb2); (try clear hk); (try clear hi)))
                        go_ret
                        exact ⟨by first | rfl | (simp [errW_none, errW_some] <;> rfl) | (simp [*, errW_none, errW_some] <;> rfl), by repeat (first | (with_reducible first | exact HB.out | apply below_alloc | apply pw_below_drewN | apply below_drew1) | exact HB.out)⟩
                      · rw [if_neg c28] at H
                        have c28b0 : (t123 == t138) = false := beq_eq_false_iff_ne.mpr c28
                        have c28b1 : (t123 != t138) = true := bne_iff_ne.mpr c28
                        by_cases c33 : t133 = (wrap64 (t121 + 1))
                        · rw [if_pos c33] at H
                          have c33b0 : (t133 == (wrap64 (t121 + 1))) = true := beq_iff_eq.mpr c33
                          have c33b1 : (t133 != (wrap64 (t121 + 1))) = false := bne_eq_false_iff_eq.mpr c33
                          clear c33
                          by_cases c34 : t134 = 1
                          · rw [if_pos c34] at H
                            have c34b0 : (t134 == 1) = true := beq_iff_eq.mpr c34
                            have c34b1 : (t134 != 1) = false := bne_eq_false_iff_eq.mpr c34
                            clear c34
                            by_cases c35 : t122 = 12
                            · rw [if_pos c35] at H
                              have c35b0 : (t122 == 12) = true := beq_iff_eq.mpr c35
                              have c35b1 : (t122 != 12) = false := bne_eq_false_iff_eq.mpr c35
                              clear c35
                              by_cases c36 : t123 = 31
                              · rw [if_pos c36] at H
                                have c36b0 : (t123 == 31) = true := beq_iff_eq.mpr c36
                                have c36b1 : (t123 != 31) = false := bne_eq_false_iff_eq.mpr c36
                                clear c36
                                replace H := Option.bind_eq_some_iff.mp H
                                obtain ⟨t140, A370, H⟩ := H
                                replace H : (some t140) = some r := H
                                have A37 := Aside0.mk A370
                                clear A370
                                obtain rfl := Option.some.inj H
                                go_wp2_with (first | ((with_reducible refine gate_callee (f := 15) rfl ?_); refine goesL_ (some 72) rfl rfl Try.func15 (by kernel_rfl) rfl #[.int .i64 (wrap64 (a0 + 1))] rfl (by (try simp only [List.map_toArray, List.map_cons, List.map_nil]); first | done | rfl | (simp only [List.length_drop, List.length_take]; rfl)) ?_; (with_reducible refine (date_Date.calls kj6 (wrap64 (a0 + 1)) t133 t134 t135 t136 _ A17.out).mono ?_); rintro e w38 ⟨rfl, hb⟩; refine ⟨_, rfl, ?_⟩; have n0_ := Aside0.mk (below_step (by repeat (first | (with_reducible first | exact HB.out | apply below_alloc | apply pw_below_drewN | apply below_drew1) | exact HB.out)) hb); clear HB; have HB := n0_; clear n0_; (try clear hb); (try clear hb2); (try clear hk); (try clear hi)) | (go_at_call 12; (with_reducible refine (date_Len.calls t121 t122 t138 _ A27.out).mono ?_); rintro e w39 ⟨rfl, hb⟩; have n0_ := Aside0.mk (below_step (by repeat (first | (with_reducible first | exact HB.out | apply below_alloc | apply pw_below_drewN | apply below_drew1) | exact HB.out)) hb); clear HB; have HB := n0_; clear n0_; (try clear hb); (try clear hb2); (try clear hk); (try clear hi)) | (go_at_call 14; (with_reducible refine (dayshiftlaw01_known.calls kj6  t140 _ A37.out).mono ?_); rintro e w40 ⟨rfl, hb⟩; have n0_ := Aside0.mk (below_step (by repeat (first | (with_reducible first | exact HB.out | apply below_alloc | apply pw_below_drewN | apply below_drew1) | exact HB.out)) hb); clear HB; have HB := n0_; clear n0_; (try clear hb); (try clear hb2); (try clear hk); (try clear hi)))
                                go_ret
                                exact ⟨by first | rfl | (simp [errW_none, errW_some] <;> rfl) | (simp [*, errW_none, errW_some] <;> rfl), by repeat (first | (with_reducible first | exact HB.out | apply below_alloc | apply pw_below_drewN | apply below_drew1) | exact HB.out)⟩
                              · rw [if_neg c36] at H
                                have c36b0 : (t123 == 31) = false := beq_eq_false_iff_ne.mpr c36
                                have c36b1 : (t123 != 31) = true := bne_iff_ne.mpr c36
                                obtain rfl := Option.some.inj H
                                go_wp2_with (first | ((with_reducible refine gate_callee (f := 15) rfl ?_); refine goesL_ (some 72) rfl rfl Try.func15 (by kernel_rfl) rfl #[.int .i64 (wrap64 (a0 + 1))] rfl (by (try simp only [List.map_toArray, List.map_cons, List.map_nil]); first | done | rfl | (simp only [List.length_drop, List.length_take]; rfl)) ?_; (with_reducible refine (date_Date.calls kj6 (wrap64 (a0 + 1)) t133 t134 t135 t136 _ A17.out).mono ?_); rintro e w41 ⟨rfl, hb⟩; refine ⟨_, rfl, ?_⟩; have n0_ := Aside0.mk (below_step (by repeat (first | (with_reducible first | exact HB.out | apply below_alloc | apply pw_below_drewN | apply below_drew1) | exact HB.out)) hb); clear HB; have HB := n0_; clear n0_; (try clear hb); (try clear hb2); (try clear hk); (try clear hi)) | (go_at_call 12; (with_reducible refine (date_Len.calls t121 t122 t138 _ A27.out).mono ?_); rintro e w42 ⟨rfl, hb⟩; have n0_ := Aside0.mk (below_step (by repeat (first | (with_reducible first | exact HB.out | apply below_alloc | apply pw_below_drewN | apply below_drew1) | exact HB.out)) hb); clear HB; have HB := n0_; clear n0_; (try clear hb); (try clear hb2); (try clear hk); (try clear hi)))
                                go_ret
                                exact ⟨by first | rfl | (simp [errW_none, errW_some] <;> rfl) | (simp [*, errW_none, errW_some] <;> rfl), by repeat (first | (with_reducible first | exact HB.out | apply below_alloc | apply pw_below_drewN | apply below_drew1) | exact HB.out)⟩
                            · rw [if_neg c35] at H
                              have c35b0 : (t122 == 12) = false := beq_eq_false_iff_ne.mpr c35
                              have c35b1 : (t122 != 12) = true := bne_iff_ne.mpr c35
                              obtain rfl := Option.some.inj H
                              go_wp2_with (first | ((with_reducible refine gate_callee (f := 15) rfl ?_); refine goesL_ (some 72) rfl rfl Try.func15 (by kernel_rfl) rfl #[.int .i64 (wrap64 (a0 + 1))] rfl (by (try simp only [List.map_toArray, List.map_cons, List.map_nil]); first | done | rfl | (simp only [List.length_drop, List.length_take]; rfl)) ?_; (with_reducible refine (date_Date.calls kj6 (wrap64 (a0 + 1)) t133 t134 t135 t136 _ A17.out).mono ?_); rintro e w43 ⟨rfl, hb⟩; refine ⟨_, rfl, ?_⟩; have n0_ := Aside0.mk (below_step (by repeat (first | (with_reducible first | exact HB.out | apply below_alloc | apply pw_below_drewN | apply below_drew1) | exact HB.out)) hb); clear HB; have HB := n0_; clear n0_; (try clear hb); (try clear hb2); (try clear hk); (try clear hi)) | (go_at_call 12; (with_reducible refine (date_Len.calls t121 t122 t138 _ A27.out).mono ?_); rintro e w44 ⟨rfl, hb⟩; have n0_ := Aside0.mk (below_step (by repeat (first | (with_reducible first | exact HB.out | apply below_alloc | apply pw_below_drewN | apply below_drew1) | exact HB.out)) hb); clear HB; have HB := n0_; clear n0_; (try clear hb); (try clear hb2); (try clear hk); (try clear hi)))
                              go_ret
                              exact ⟨by first | rfl | (simp [errW_none, errW_some] <;> rfl) | (simp [*, errW_none, errW_some] <;> rfl), by repeat (first | (with_reducible first | exact HB.out | apply below_alloc | apply pw_below_drewN | apply below_drew1) | exact HB.out)⟩
                          · rw [if_neg c34] at H
                            have c34b0 : (t134 == 1) = false := beq_eq_false_iff_ne.mpr c34
                            have c34b1 : (t134 != 1) = true := bne_iff_ne.mpr c34
                            obtain rfl := Option.some.inj H
                            go_wp2_with (first | ((with_reducible refine gate_callee (f := 15) rfl ?_); refine goesL_ (some 72) rfl rfl Try.func15 (by kernel_rfl) rfl #[.int .i64 (wrap64 (a0 + 1))] rfl (by (try simp only [List.map_toArray, List.map_cons, List.map_nil]); first | done | rfl | (simp only [List.length_drop, List.length_take]; rfl)) ?_; (with_reducible refine (date_Date.calls kj6 (wrap64 (a0 + 1)) t133 t134 t135 t136 _ A17.out).mono ?_); rintro e w45 ⟨rfl, hb⟩; refine ⟨_, rfl, ?_⟩; have n0_ := Aside0.mk (below_step (by repeat (first | (with_reducible first | exact HB.out | apply below_alloc | apply pw_below_drewN | apply below_drew1) | exact HB.out)) hb); clear HB; have HB := n0_; clear n0_; (try clear hb); (try clear hb2); (try clear hk); (try clear hi)) | (go_at_call 12; (with_reducible refine (date_Len.calls t121 t122 t138 _ A27.out).mono ?_); rintro e w46 ⟨rfl, hb⟩; have n0_ := Aside0.mk (below_step (by repeat (first | (with_reducible first | exact HB.out | apply below_alloc | apply pw_below_drewN | apply below_drew1) | exact HB.out)) hb); clear HB; have HB := n0_; clear n0_; (try clear hb); (try clear hb2); (try clear hk); (try clear hi)))
                            go_ret
                            exact ⟨by first | rfl | (simp [errW_none, errW_some] <;> rfl) | (simp [*, errW_none, errW_some] <;> rfl), by repeat (first | (with_reducible first | exact HB.out | apply below_alloc | apply pw_below_drewN | apply below_drew1) | exact HB.out)⟩
                        · rw [if_neg c33] at H
                          have c33b0 : (t133 == (wrap64 (t121 + 1))) = false := beq_eq_false_iff_ne.mpr c33
                          have c33b1 : (t133 != (wrap64 (t121 + 1))) = true := bne_iff_ne.mpr c33
                          obtain rfl := Option.some.inj H
                          go_wp2_with (first | ((with_reducible refine gate_callee (f := 15) rfl ?_); refine goesL_ (some 72) rfl rfl Try.func15 (by kernel_rfl) rfl #[.int .i64 (wrap64 (a0 + 1))] rfl (by (try simp only [List.map_toArray, List.map_cons, List.map_nil]); first | done | rfl | (simp only [List.length_drop, List.length_take]; rfl)) ?_; (with_reducible refine (date_Date.calls kj6 (wrap64 (a0 + 1)) t133 t134 t135 t136 _ A17.out).mono ?_); rintro e w47 ⟨rfl, hb⟩; refine ⟨_, rfl, ?_⟩; have n0_ := Aside0.mk (below_step (by repeat (first | (with_reducible first | exact HB.out | apply below_alloc | apply pw_below_drewN | apply below_drew1) | exact HB.out)) hb); clear HB; have HB := n0_; clear n0_; (try clear hb); (try clear hb2); (try clear hk); (try clear hi)) | (go_at_call 12; (with_reducible refine (date_Len.calls t121 t122 t138 _ A27.out).mono ?_); rintro e w48 ⟨rfl, hb⟩; have n0_ := Aside0.mk (below_step (by repeat (first | (with_reducible first | exact HB.out | apply below_alloc | apply pw_below_drewN | apply below_drew1) | exact HB.out)) hb); clear HB; have HB := n0_; clear n0_; (try clear hb); (try clear hb2); (try clear hk); (try clear hi)))
                          go_ret
                          exact ⟨by first | rfl | (simp [errW_none, errW_some] <;> rfl) | (simp [*, errW_none, errW_some] <;> rfl), by repeat (first | (with_reducible first | exact HB.out | apply below_alloc | apply pw_below_drewN | apply below_drew1) | exact HB.out)⟩
                    · rw [if_neg c26] at H
                      have c26b0 : (t135 == 1) = false := beq_eq_false_iff_ne.mpr c26
                      have c26b1 : (t135 != 1) = true := bne_iff_ne.mpr c26
                      by_cases c49 : t133 = (wrap64 (t121 + 1))
                      · rw [if_pos c49] at H
                        have c49b0 : (t133 == (wrap64 (t121 + 1))) = true := beq_iff_eq.mpr c49
                        have c49b1 : (t133 != (wrap64 (t121 + 1))) = false := bne_eq_false_iff_eq.mpr c49
                        clear c49
                        by_cases c50 : t134 = 1
                        · rw [if_pos c50] at H
                          have c50b0 : (t134 == 1) = true := beq_iff_eq.mpr c50
                          have c50b1 : (t134 != 1) = false := bne_eq_false_iff_eq.mpr c50
                          clear c50
                          obtain rfl := Option.some.inj H
                          go_wp2_with (first | ((with_reducible refine gate_callee (f := 15) rfl ?_); refine goesL_ (some 72) rfl rfl Try.func15 (by kernel_rfl) rfl #[.int .i64 (wrap64 (a0 + 1))] rfl (by (try simp only [List.map_toArray, List.map_cons, List.map_nil]); first | done | rfl | (simp only [List.length_drop, List.length_take]; rfl)) ?_; (with_reducible refine (date_Date.calls kj6 (wrap64 (a0 + 1)) t133 t134 t135 t136 _ A17.out).mono ?_); rintro e w51 ⟨rfl, hb⟩; refine ⟨_, rfl, ?_⟩; have n0_ := Aside0.mk (below_step (by repeat (first | (with_reducible first | exact HB.out | apply below_alloc | apply pw_below_drewN | apply below_drew1) | exact HB.out)) hb); clear HB; have HB := n0_; clear n0_; (try clear hb); (try clear hb2); (try clear hk); (try clear hi)))
                          go_ret
                          exact ⟨by first | rfl | (simp [errW_none, errW_some] <;> rfl) | (simp [*, errW_none, errW_some] <;> rfl), by repeat (first | (with_reducible first | exact HB.out | apply below_alloc | apply pw_below_drewN | apply below_drew1) | exact HB.out)⟩
                        · rw [if_neg c50] at H
                          have c50b0 : (t134 == 1) = false := beq_eq_false_iff_ne.mpr c50
                          have c50b1 : (t134 != 1) = true := bne_iff_ne.mpr c50
                          obtain rfl := Option.some.inj H
                          go_wp2_with (first | ((with_reducible refine gate_callee (f := 15) rfl ?_); refine goesL_ (some 72) rfl rfl Try.func15 (by kernel_rfl) rfl #[.int .i64 (wrap64 (a0 + 1))] rfl (by (try simp only [List.map_toArray, List.map_cons, List.map_nil]); first | done | rfl | (simp only [List.length_drop, List.length_take]; rfl)) ?_; (with_reducible refine (date_Date.calls kj6 (wrap64 (a0 + 1)) t133 t134 t135 t136 _ A17.out).mono ?_); rintro e w52 ⟨rfl, hb⟩; refine ⟨_, rfl, ?_⟩; have n0_ := Aside0.mk (below_step (by repeat (first | (with_reducible first | exact HB.out | apply below_alloc | apply pw_below_drewN | apply below_drew1) | exact HB.out)) hb); clear HB; have HB := n0_; clear n0_; (try clear hb); (try clear hb2); (try clear hk); (try clear hi)))
                          go_ret
                          exact ⟨by first | rfl | (simp [errW_none, errW_some] <;> rfl) | (simp [*, errW_none, errW_some] <;> rfl), by repeat (first | (with_reducible first | exact HB.out | apply below_alloc | apply pw_below_drewN | apply below_drew1) | exact HB.out)⟩
                      · rw [if_neg c49] at H
                        have c49b0 : (t133 == (wrap64 (t121 + 1))) = false := beq_eq_false_iff_ne.mpr c49
                        have c49b1 : (t133 != (wrap64 (t121 + 1))) = true := bne_iff_ne.mpr c49
                        obtain rfl := Option.some.inj H
                        go_wp2_with (first | ((with_reducible refine gate_callee (f := 15) rfl ?_); refine goesL_ (some 72) rfl rfl Try.func15 (by kernel_rfl) rfl #[.int .i64 (wrap64 (a0 + 1))] rfl (by (try simp only [List.map_toArray, List.map_cons, List.map_nil]); first | done | rfl | (simp only [List.length_drop, List.length_take]; rfl)) ?_; (with_reducible refine (date_Date.calls kj6 (wrap64 (a0 + 1)) t133 t134 t135 t136 _ A17.out).mono ?_); rintro e w53 ⟨rfl, hb⟩; refine ⟨_, rfl, ?_⟩; have n0_ := Aside0.mk (below_step (by repeat (first | (with_reducible first | exact HB.out | apply below_alloc | apply pw_below_drewN | apply below_drew1) | exact HB.out)) hb); clear HB; have HB := n0_; clear n0_; (try clear hb); (try clear hb2); (try clear hk); (try clear hi)))
                        go_ret
                        exact ⟨by first | rfl | (simp [errW_none, errW_some] <;> rfl) | (simp [*, errW_none, errW_some] <;> rfl), by repeat (first | (with_reducible first | exact HB.out | apply below_alloc | apply pw_below_drewN | apply below_drew1) | exact HB.out)⟩
                  · rw [if_neg c25] at H
                    have c25b0 : (t134 == (wrap64 (t122 + 1))) = false := beq_eq_false_iff_ne.mpr c25
                    have c25b1 : (t134 != (wrap64 (t122 + 1))) = true := bne_iff_ne.mpr c25
                    by_cases c54 : t133 = (wrap64 (t121 + 1))
                    · rw [if_pos c54] at H
                      have c54b0 : (t133 == (wrap64 (t121 + 1))) = true := beq_iff_eq.mpr c54
                      have c54b1 : (t133 != (wrap64 (t121 + 1))) = false := bne_eq_false_iff_eq.mpr c54
                      clear c54
                      by_cases c55 : t134 = 1
                      · rw [if_pos c55] at H
                        have c55b0 : (t134 == 1) = true := beq_iff_eq.mpr c55
                        have c55b1 : (t134 != 1) = false := bne_eq_false_iff_eq.mpr c55
                        clear c55
                        by_cases c56 : t135 = 1
                        · rw [if_pos c56] at H
                          have c56b0 : (t135 == 1) = true := beq_iff_eq.mpr c56
                          have c56b1 : (t135 != 1) = false := bne_eq_false_iff_eq.mpr c56
                          clear c56
                          by_cases c57 : t122 = 12
                          · rw [if_pos c57] at H
                            have c57b0 : (t122 == 12) = true := beq_iff_eq.mpr c57
                            have c57b1 : (t122 != 12) = false := bne_eq_false_iff_eq.mpr c57
                            clear c57
                            by_cases c58 : t123 = 31
                            · rw [if_pos c58] at H
                              have c58b0 : (t123 == 31) = true := beq_iff_eq.mpr c58
                              have c58b1 : (t123 != 31) = false := bne_eq_false_iff_eq.mpr c58
                              clear c58
                              replace H := Option.bind_eq_some_iff.mp H
                              obtain ⟨t141, A590, H⟩ := H
                              replace H : (some t141) = some r := H
                              have A59 := Aside0.mk A590
                              clear A590
                              obtain rfl := Option.some.inj H
                              go_wp2_with (first | ((with_reducible refine gate_callee (f := 15) rfl ?_); refine goesL_ (some 72) rfl rfl Try.func15 (by kernel_rfl) rfl #[.int .i64 (wrap64 (a0 + 1))] rfl (by (try simp only [List.map_toArray, List.map_cons, List.map_nil]); first | done | rfl | (simp only [List.length_drop, List.length_take]; rfl)) ?_; (with_reducible refine (date_Date.calls kj6 (wrap64 (a0 + 1)) t133 t134 t135 t136 _ A17.out).mono ?_); rintro e w60 ⟨rfl, hb⟩; refine ⟨_, rfl, ?_⟩; have n0_ := Aside0.mk (below_step (by repeat (first | (with_reducible first | exact HB.out | apply below_alloc | apply pw_below_drewN | apply below_drew1) | exact HB.out)) hb); clear HB; have HB := n0_; clear n0_; (try clear hb); (try clear hb2); (try clear hk); (try clear hi)) | (go_at_call 14; (with_reducible refine (dayshiftlaw01_known.calls kj6  t141 _ A59.out).mono ?_); rintro e w61 ⟨rfl, hb⟩; have n0_ := Aside0.mk (below_step (by repeat (first | (with_reducible first | exact HB.out | apply below_alloc | apply pw_below_drewN | apply below_drew1) | exact HB.out)) hb); clear HB; have HB := n0_; clear n0_; (try clear hb); (try clear hb2); (try clear hk); (try clear hi)))
                              go_ret
                              exact ⟨by first | rfl | (simp [errW_none, errW_some] <;> rfl) | (simp [*, errW_none, errW_some] <;> rfl), by repeat (first | (with_reducible first | exact HB.out | apply below_alloc | apply pw_below_drewN | apply below_drew1) | exact HB.out)⟩
                            · rw [if_neg c58] at H
                              have c58b0 : (t123 == 31) = false := beq_eq_false_iff_ne.mpr c58
                              have c58b1 : (t123 != 31) = true := bne_iff_ne.mpr c58
                              obtain rfl := Option.some.inj H
                              go_wp2_with (first | ((with_reducible refine gate_callee (f := 15) rfl ?_); refine goesL_ (some 72) rfl rfl Try.func15 (by kernel_rfl) rfl #[.int .i64 (wrap64 (a0 + 1))] rfl (by (try simp only [List.map_toArray, List.map_cons, List.map_nil]); first | done | rfl | (simp only [List.length_drop, List.length_take]; rfl)) ?_; (with_reducible refine (date_Date.calls kj6 (wrap64 (a0 + 1)) t133 t134 t135 t136 _ A17.out).mono ?_); rintro e w62 ⟨rfl, hb⟩; refine ⟨_, rfl, ?_⟩; have n0_ := Aside0.mk (below_step (by repeat (first | (with_reducible first | exact HB.out | apply below_alloc | apply pw_below_drewN | apply below_drew1) | exact HB.out)) hb); clear HB; have HB := n0_; clear n0_; (try clear hb); (try clear hb2); (try clear hk); (try clear hi)))
                              go_ret
                              exact ⟨by first | rfl | (simp [errW_none, errW_some] <;> rfl) | (simp [*, errW_none, errW_some] <;> rfl), by repeat (first | (with_reducible first | exact HB.out | apply below_alloc | apply pw_below_drewN | apply below_drew1) | exact HB.out)⟩
                          · rw [if_neg c57] at H
                            have c57b0 : (t122 == 12) = false := beq_eq_false_iff_ne.mpr c57
                            have c57b1 : (t122 != 12) = true := bne_iff_ne.mpr c57
                            obtain rfl := Option.some.inj H
                            go_wp2_with (first | ((with_reducible refine gate_callee (f := 15) rfl ?_); refine goesL_ (some 72) rfl rfl Try.func15 (by kernel_rfl) rfl #[.int .i64 (wrap64 (a0 + 1))] rfl (by (try simp only [List.map_toArray, List.map_cons, List.map_nil]); first | done | rfl | (simp only [List.length_drop, List.length_take]; rfl)) ?_; (with_reducible refine (date_Date.calls kj6 (wrap64 (a0 + 1)) t133 t134 t135 t136 _ A17.out).mono ?_); rintro e w63 ⟨rfl, hb⟩; refine ⟨_, rfl, ?_⟩; have n0_ := Aside0.mk (below_step (by repeat (first | (with_reducible first | exact HB.out | apply below_alloc | apply pw_below_drewN | apply below_drew1) | exact HB.out)) hb); clear HB; have HB := n0_; clear n0_; (try clear hb); (try clear hb2); (try clear hk); (try clear hi)))
                            go_ret
                            exact ⟨by first | rfl | (simp [errW_none, errW_some] <;> rfl) | (simp [*, errW_none, errW_some] <;> rfl), by repeat (first | (with_reducible first | exact HB.out | apply below_alloc | apply pw_below_drewN | apply below_drew1) | exact HB.out)⟩
                        · rw [if_neg c56] at H
                          have c56b0 : (t135 == 1) = false := beq_eq_false_iff_ne.mpr c56
                          have c56b1 : (t135 != 1) = true := bne_iff_ne.mpr c56
                          obtain rfl := Option.some.inj H
                          go_wp2_with (first | ((with_reducible refine gate_callee (f := 15) rfl ?_); refine goesL_ (some 72) rfl rfl Try.func15 (by kernel_rfl) rfl #[.int .i64 (wrap64 (a0 + 1))] rfl (by (try simp only [List.map_toArray, List.map_cons, List.map_nil]); first | done | rfl | (simp only [List.length_drop, List.length_take]; rfl)) ?_; (with_reducible refine (date_Date.calls kj6 (wrap64 (a0 + 1)) t133 t134 t135 t136 _ A17.out).mono ?_); rintro e w64 ⟨rfl, hb⟩; refine ⟨_, rfl, ?_⟩; have n0_ := Aside0.mk (below_step (by repeat (first | (with_reducible first | exact HB.out | apply below_alloc | apply pw_below_drewN | apply below_drew1) | exact HB.out)) hb); clear HB; have HB := n0_; clear n0_; (try clear hb); (try clear hb2); (try clear hk); (try clear hi)))
                          go_ret
                          exact ⟨by first | rfl | (simp [errW_none, errW_some] <;> rfl) | (simp [*, errW_none, errW_some] <;> rfl), by repeat (first | (with_reducible first | exact HB.out | apply below_alloc | apply pw_below_drewN | apply below_drew1) | exact HB.out)⟩
                      · rw [if_neg c55] at H
                        have c55b0 : (t134 == 1) = false := beq_eq_false_iff_ne.mpr c55
                        have c55b1 : (t134 != 1) = true := bne_iff_ne.mpr c55
                        obtain rfl := Option.some.inj H
                        go_wp2_with (first | ((with_reducible refine gate_callee (f := 15) rfl ?_); refine goesL_ (some 72) rfl rfl Try.func15 (by kernel_rfl) rfl #[.int .i64 (wrap64 (a0 + 1))] rfl (by (try simp only [List.map_toArray, List.map_cons, List.map_nil]); first | done | rfl | (simp only [List.length_drop, List.length_take]; rfl)) ?_; (with_reducible refine (date_Date.calls kj6 (wrap64 (a0 + 1)) t133 t134 t135 t136 _ A17.out).mono ?_); rintro e w65 ⟨rfl, hb⟩; refine ⟨_, rfl, ?_⟩; have n0_ := Aside0.mk (below_step (by repeat (first | (with_reducible first | exact HB.out | apply below_alloc | apply pw_below_drewN | apply below_drew1) | exact HB.out)) hb); clear HB; have HB := n0_; clear n0_; (try clear hb); (try clear hb2); (try clear hk); (try clear hi)))
                        go_ret
                        exact ⟨by first | rfl | (simp [errW_none, errW_some] <;> rfl) | (simp [*, errW_none, errW_some] <;> rfl), by repeat (first | (with_reducible first | exact HB.out | apply below_alloc | apply pw_below_drewN | apply below_drew1) | exact HB.out)⟩
                    · rw [if_neg c54] at H
                      have c54b0 : (t133 == (wrap64 (t121 + 1))) = false := beq_eq_false_iff_ne.mpr c54
                      have c54b1 : (t133 != (wrap64 (t121 + 1))) = true := bne_iff_ne.mpr c54
                      obtain rfl := Option.some.inj H
                      go_wp2_with (first | ((with_reducible refine gate_callee (f := 15) rfl ?_); refine goesL_ (some 72) rfl rfl Try.func15 (by kernel_rfl) rfl #[.int .i64 (wrap64 (a0 + 1))] rfl (by (try simp only [List.map_toArray, List.map_cons, List.map_nil]); first | done | rfl | (simp only [List.length_drop, List.length_take]; rfl)) ?_; (with_reducible refine (date_Date.calls kj6 (wrap64 (a0 + 1)) t133 t134 t135 t136 _ A17.out).mono ?_); rintro e w66 ⟨rfl, hb⟩; refine ⟨_, rfl, ?_⟩; have n0_ := Aside0.mk (below_step (by repeat (first | (with_reducible first | exact HB.out | apply below_alloc | apply pw_below_drewN | apply below_drew1) | exact HB.out)) hb); clear HB; have HB := n0_; clear n0_; (try clear hb); (try clear hb2); (try clear hk); (try clear hi)))
                      go_ret
                      exact ⟨by first | rfl | (simp [errW_none, errW_some] <;> rfl) | (simp [*, errW_none, errW_some] <;> rfl), by repeat (first | (with_reducible first | exact HB.out | apply below_alloc | apply pw_below_drewN | apply below_drew1) | exact HB.out)⟩
              · rw [if_neg c20] at H
                have c20b0 : (t134 == t122) = false := beq_eq_false_iff_ne.mpr c20
                have c20b1 : (t134 != t122) = true := bne_iff_ne.mpr c20
                by_cases c67 : t134 = (wrap64 (t122 + 1))
                · rw [if_pos c67] at H
                  have c67b0 : (t134 == (wrap64 (t122 + 1))) = true := beq_iff_eq.mpr c67
                  have c67b1 : (t134 != (wrap64 (t122 + 1))) = false := bne_eq_false_iff_eq.mpr c67
                  clear c67
                  by_cases c68 : t135 = 1
                  · rw [if_pos c68] at H
                    have c68b0 : (t135 == 1) = true := beq_iff_eq.mpr c68
                    have c68b1 : (t135 != 1) = false := bne_eq_false_iff_eq.mpr c68
                    clear c68
                    replace H := Option.bind_eq_some_iff.mp H
                    obtain ⟨t142, A690, H⟩ := H
                    replace H : (if t123 = t142 then ((dayshiftlaw01_known.f kj6).bind fun t143 => (some t143)) else (if t133 = (wrap64 (t121 + 1)) then (if t134 = 1 then (if t122 = 12 then (if t123 = 31 then ((dayshiftlaw01_known.f kj6).bind fun t144 => (some t144)) else (some false)) else (some false)) else (some false)) else (some false))) = some r := H
                    have A69 := Aside0.mk A690
                    clear A690
                    by_cases c70 : t123 = t142
                    · rw [if_pos c70] at H
                      have c70b0 : (t123 == t142) = true := beq_iff_eq.mpr c70
                      have c70b1 : (t123 != t142) = false := bne_eq_false_iff_eq.mpr c70
                      clear c70
                      replace H := Option.bind_eq_some_iff.mp H
                      obtain ⟨t143, A710, H⟩ := H
                      replace H : (some t143) = some r := H
                      have A71 := Aside0.mk A710
                      clear A710
                      obtain rfl := Option.some.inj H
                      go_wp2_with (first | ((with_reducible refine gate_callee (f := 15) rfl ?_); refine goesL_ (some 72) rfl rfl Try.func15 (by kernel_rfl) rfl #[.int .i64 (wrap64 (a0 + 1))] rfl (by (try simp only [List.map_toArray, List.map_cons, List.map_nil]); first | done | rfl | (simp only [List.length_drop, List.length_take]; rfl)) ?_; (with_reducible refine (date_Date.calls kj6 (wrap64 (a0 + 1)) t133 t134 t135 t136 _ A17.out).mono ?_); rintro e w72 ⟨rfl, hb⟩; refine ⟨_, rfl, ?_⟩; have n0_ := Aside0.mk (below_step (by repeat (first | (with_reducible first | exact HB.out | apply below_alloc | apply pw_below_drewN | apply below_drew1) | exact HB.out)) hb); clear HB; have HB := n0_; clear n0_; (try clear hb); (try clear hb2); (try clear hk); (try clear hi)) | (go_at_call 12; (with_reducible refine (date_Len.calls t121 t122 t142 _ A69.out).mono ?_); rintro e w73 ⟨rfl, hb⟩; have n0_ := Aside0.mk (below_step (by repeat (first | (with_reducible first | exact HB.out | apply below_alloc | apply pw_below_drewN | apply below_drew1) | exact HB.out)) hb); clear HB; have HB := n0_; clear n0_; (try clear hb); (try clear hb2); (try clear hk); (try clear hi)) | (go_at_call 14; (with_reducible refine (dayshiftlaw01_known.calls kj6  t143 _ A71.out).mono ?_); rintro e w74 ⟨rfl, hb⟩; have n0_ := Aside0.mk (below_step (by repeat (first | (with_reducible first | exact HB.out | apply below_alloc | apply pw_below_drewN | apply below_drew1) | exact HB.out)) hb); clear HB; have HB := n0_; clear n0_; (try clear hb); (try clear hb2); (try clear hk); (try clear hi)))
                      go_ret
                      exact ⟨by first | rfl | (simp [errW_none, errW_some] <;> rfl) | (simp [*, errW_none, errW_some] <;> rfl), by repeat (first | (with_reducible first | exact HB.out | apply below_alloc | apply pw_below_drewN | apply below_drew1) | exact HB.out)⟩
                    · rw [if_neg c70] at H
                      have c70b0 : (t123 == t142) = false := beq_eq_false_iff_ne.mpr c70
                      have c70b1 : (t123 != t142) = true := bne_iff_ne.mpr c70
                      by_cases c75 : t133 = (wrap64 (t121 + 1))
                      · rw [if_pos c75] at H
                        have c75b0 : (t133 == (wrap64 (t121 + 1))) = true := beq_iff_eq.mpr c75
                        have c75b1 : (t133 != (wrap64 (t121 + 1))) = false := bne_eq_false_iff_eq.mpr c75
                        clear c75
                        by_cases c76 : t134 = 1
                        · rw [if_pos c76] at H
                          have c76b0 : (t134 == 1) = true := beq_iff_eq.mpr c76
                          have c76b1 : (t134 != 1) = false := bne_eq_false_iff_eq.mpr c76
                          clear c76
                          by_cases c77 : t122 = 12
                          · rw [if_pos c77] at H
                            have c77b0 : (t122 == 12) = true := beq_iff_eq.mpr c77
                            have c77b1 : (t122 != 12) = false := bne_eq_false_iff_eq.mpr c77
                            clear c77
                            by_cases c78 : t123 = 31
                            · rw [if_pos c78] at H
                              have c78b0 : (t123 == 31) = true := beq_iff_eq.mpr c78
                              have c78b1 : (t123 != 31) = false := bne_eq_false_iff_eq.mpr c78
                              clear c78
                              replace H := Option.bind_eq_some_iff.mp H
                              obtain ⟨t144, A790, H⟩ := H
                              replace H : (some t144) = some r := H
                              have A79 := Aside0.mk A790
                              clear A790
                              obtain rfl := Option.some.inj H
                              go_wp2_with (first | ((with_reducible refine gate_callee (f := 15) rfl ?_); refine goesL_ (some 72) rfl rfl Try.func15 (by kernel_rfl) rfl #[.int .i64 (wrap64 (a0 + 1))] rfl (by (try simp only [List.map_toArray, List.map_cons, List.map_nil]); first | done | rfl | (simp only [List.length_drop, List.length_take]; rfl)) ?_; (with_reducible refine (date_Date.calls kj6 (wrap64 (a0 + 1)) t133 t134 t135 t136 _ A17.out).mono ?_); rintro e w80 ⟨rfl, hb⟩; refine ⟨_, rfl, ?_⟩; have n0_ := Aside0.mk (below_step (by repeat (first | (with_reducible first | exact HB.out | apply below_alloc | apply pw_below_drewN | apply below_drew1) | exact HB.out)) hb); clear HB; have HB := n0_; clear n0_; (try clear hb); (try clear hb2); (try clear hk); (try clear hi)) | (go_at_call 12; (with_reducible refine (date_Len.calls t121 t122 t142 _ A69.out).mono ?_); rintro e w81 ⟨rfl, hb⟩; have n0_ := Aside0.mk (below_step (by repeat (first | (with_reducible first | exact HB.out | apply below_alloc | apply pw_below_drewN | apply below_drew1) | exact HB.out)) hb); clear HB; have HB := n0_; clear n0_; (try clear hb); (try clear hb2); (try clear hk); (try clear hi)) | (go_at_call 14; (with_reducible refine (dayshiftlaw01_known.calls kj6  t144 _ A79.out).mono ?_); rintro e w82 ⟨rfl, hb⟩; have n0_ := Aside0.mk (below_step (by repeat (first | (with_reducible first | exact HB.out | apply below_alloc | apply pw_below_drewN | apply below_drew1) | exact HB.out)) hb); clear HB; have HB := n0_; clear n0_; (try clear hb); (try clear hb2); (try clear hk); (try clear hi)))
                              go_ret
                              exact ⟨by first | rfl | (simp [errW_none, errW_some] <;> rfl) | (simp [*, errW_none, errW_some] <;> rfl), by repeat (first | (with_reducible first | exact HB.out | apply below_alloc | apply pw_below_drewN | apply below_drew1) | exact HB.out)⟩
                            · rw [if_neg c78] at H
                              have c78b0 : (t123 == 31) = false := beq_eq_false_iff_ne.mpr c78
                              have c78b1 : (t123 != 31) = true := bne_iff_ne.mpr c78
                              obtain rfl := Option.some.inj H
                              go_wp2_with (first | ((with_reducible refine gate_callee (f := 15) rfl ?_); refine goesL_ (some 72) rfl rfl Try.func15 (by kernel_rfl) rfl #[.int .i64 (wrap64 (a0 + 1))] rfl (by (try simp only [List.map_toArray, List.map_cons, List.map_nil]); first | done | rfl | (simp only [List.length_drop, List.length_take]; rfl)) ?_; (with_reducible refine (date_Date.calls kj6 (wrap64 (a0 + 1)) t133 t134 t135 t136 _ A17.out).mono ?_); rintro e w83 ⟨rfl, hb⟩; refine ⟨_, rfl, ?_⟩; have n0_ := Aside0.mk (below_step (by repeat (first | (with_reducible first | exact HB.out | apply below_alloc | apply pw_below_drewN | apply below_drew1) | exact HB.out)) hb); clear HB; have HB := n0_; clear n0_; (try clear hb); (try clear hb2); (try clear hk); (try clear hi)) | (go_at_call 12; (with_reducible refine (date_Len.calls t121 t122 t142 _ A69.out).mono ?_); rintro e w84 ⟨rfl, hb⟩; have n0_ := Aside0.mk (below_step (by repeat (first | (with_reducible first | exact HB.out | apply below_alloc | apply pw_below_drewN | apply below_drew1) | exact HB.out)) hb); clear HB; have HB := n0_; clear n0_; (try clear hb); (try clear hb2); (try clear hk); (try clear hi)))
                              go_ret
                              exact ⟨by first | rfl | (simp [errW_none, errW_some] <;> rfl) | (simp [*, errW_none, errW_some] <;> rfl), by repeat (first | (with_reducible first | exact HB.out | apply below_alloc | apply pw_below_drewN | apply below_drew1) | exact HB.out)⟩
                          · rw [if_neg c77] at H
                            have c77b0 : (t122 == 12) = false := beq_eq_false_iff_ne.mpr c77
                            have c77b1 : (t122 != 12) = true := bne_iff_ne.mpr c77
                            obtain rfl := Option.some.inj H
                            go_wp2_with (first | ((with_reducible refine gate_callee (f := 15) rfl ?_); refine goesL_ (some 72) rfl rfl Try.func15 (by kernel_rfl) rfl #[.int .i64 (wrap64 (a0 + 1))] rfl (by (try simp only [List.map_toArray, List.map_cons, List.map_nil]); first | done | rfl | (simp only [List.length_drop, List.length_take]; rfl)) ?_; (with_reducible refine (date_Date.calls kj6 (wrap64 (a0 + 1)) t133 t134 t135 t136 _ A17.out).mono ?_); rintro e w85 ⟨rfl, hb⟩; refine ⟨_, rfl, ?_⟩; have n0_ := Aside0.mk (below_step (by repeat (first | (with_reducible first | exact HB.out | apply below_alloc | apply pw_below_drewN | apply below_drew1) | exact HB.out)) hb); clear HB; have HB := n0_; clear n0_; (try clear hb); (try clear hb2); (try clear hk); (try clear hi)) | (go_at_call 12; (with_reducible refine (date_Len.calls t121 t122 t142 _ A69.out).mono ?_); rintro e w86 ⟨rfl, hb⟩; have n0_ := Aside0.mk (below_step (by repeat (first | (with_reducible first | exact HB.out | apply below_alloc | apply pw_below_drewN | apply below_drew1) | exact HB.out)) hb); clear HB; have HB := n0_; clear n0_; (try clear hb); (try clear hb2); (try clear hk); (try clear hi)))
                            go_ret
                            exact ⟨by first | rfl | (simp [errW_none, errW_some] <;> rfl) | (simp [*, errW_none, errW_some] <;> rfl), by repeat (first | (with_reducible first | exact HB.out | apply below_alloc | apply pw_below_drewN | apply below_drew1) | exact HB.out)⟩
                        · rw [if_neg c76] at H
                          have c76b0 : (t134 == 1) = false := beq_eq_false_iff_ne.mpr c76
                          have c76b1 : (t134 != 1) = true := bne_iff_ne.mpr c76
                          obtain rfl := Option.some.inj H
                          go_wp2_with (first | ((with_reducible refine gate_callee (f := 15) rfl ?_); refine goesL_ (some 72) rfl rfl Try.func15 (by kernel_rfl) rfl #[.int .i64 (wrap64 (a0 + 1))] rfl (by (try simp only [List.map_toArray, List.map_cons, List.map_nil]); first | done | rfl | (simp only [List.length_drop, List.length_take]; rfl)) ?_; (with_reducible refine (date_Date.calls kj6 (wrap64 (a0 + 1)) t133 t134 t135 t136 _ A17.out).mono ?_); rintro e w87 ⟨rfl, hb⟩; refine ⟨_, rfl, ?_⟩; have n0_ := Aside0.mk (below_step (by repeat (first | (with_reducible first | exact HB.out | apply below_alloc | apply pw_below_drewN | apply below_drew1) | exact HB.out)) hb); clear HB; have HB := n0_; clear n0_; (try clear hb); (try clear hb2); (try clear hk); (try clear hi)) | (go_at_call 12; (with_reducible refine (date_Len.calls t121 t122 t142 _ A69.out).mono ?_); rintro e w88 ⟨rfl, hb⟩; have n0_ := Aside0.mk (below_step (by repeat (first | (with_reducible first | exact HB.out | apply below_alloc | apply pw_below_drewN | apply below_drew1) | exact HB.out)) hb); clear HB; have HB := n0_; clear n0_; (try clear hb); (try clear hb2); (try clear hk); (try clear hi)))
                          go_ret
                          exact ⟨by first | rfl | (simp [errW_none, errW_some] <;> rfl) | (simp [*, errW_none, errW_some] <;> rfl), by repeat (first | (with_reducible first | exact HB.out | apply below_alloc | apply pw_below_drewN | apply below_drew1) | exact HB.out)⟩
                      · rw [if_neg c75] at H
                        have c75b0 : (t133 == (wrap64 (t121 + 1))) = false := beq_eq_false_iff_ne.mpr c75
                        have c75b1 : (t133 != (wrap64 (t121 + 1))) = true := bne_iff_ne.mpr c75
                        obtain rfl := Option.some.inj H
                        go_wp2_with (first | ((with_reducible refine gate_callee (f := 15) rfl ?_); refine goesL_ (some 72) rfl rfl Try.func15 (by kernel_rfl) rfl #[.int .i64 (wrap64 (a0 + 1))] rfl (by (try simp only [List.map_toArray, List.map_cons, List.map_nil]); first | done | rfl | (simp only [List.length_drop, List.length_take]; rfl)) ?_; (with_reducible refine (date_Date.calls kj6 (wrap64 (a0 + 1)) t133 t134 t135 t136 _ A17.out).mono ?_); rintro e w89 ⟨rfl, hb⟩; refine ⟨_, rfl, ?_⟩; have n0_ := Aside0.mk (below_step (by repeat (first | (with_reducible first | exact HB.out | apply below_alloc | apply pw_below_drewN | apply below_drew1) | exact HB.out)) hb); clear HB; have HB := n0_; clear n0_; (try clear hb); (try clear hb2); (try clear hk); (try clear hi)) | (go_at_call 12; (with_reducible refine (date_Len.calls t121 t122 t142 _ A69.out).mono ?_); rintro e w90 ⟨rfl, hb⟩; have n0_ := Aside0.mk (below_step (by repeat (first | (with_reducible first | exact HB.out | apply below_alloc | apply pw_below_drewN | apply below_drew1) | exact HB.out)) hb); clear HB; have HB := n0_; clear n0_; (try clear hb); (try clear hb2); (try clear hk); (try clear hi)))
                        go_ret
                        exact ⟨by first | rfl | (simp [errW_none, errW_some] <;> rfl) | (simp [*, errW_none, errW_some] <;> rfl), by repeat (first | (with_reducible first | exact HB.out | apply below_alloc | apply pw_below_drewN | apply below_drew1) | exact HB.out)⟩
                  · rw [if_neg c68] at H
                    have c68b0 : (t135 == 1) = false := beq_eq_false_iff_ne.mpr c68
                    have c68b1 : (t135 != 1) = true := bne_iff_ne.mpr c68
                    by_cases c91 : t133 = (wrap64 (t121 + 1))
                    · rw [if_pos c91] at H
                      have c91b0 : (t133 == (wrap64 (t121 + 1))) = true := beq_iff_eq.mpr c91
                      have c91b1 : (t133 != (wrap64 (t121 + 1))) = false := bne_eq_false_iff_eq.mpr c91
                      clear c91
                      by_cases c92 : t134 = 1
                      · rw [if_pos c92] at H
                        have c92b0 : (t134 == 1) = true := beq_iff_eq.mpr c92
                        have c92b1 : (t134 != 1) = false := bne_eq_false_iff_eq.mpr c92
                        clear c92
                        obtain rfl := Option.some.inj H
                        go_wp2_with (first | ((with_reducible refine gate_callee (f := 15) rfl ?_); refine goesL_ (some 72) rfl rfl Try.func15 (by kernel_rfl) rfl #[.int .i64 (wrap64 (a0 + 1))] rfl (by (try simp only [List.map_toArray, List.map_cons, List.map_nil]); first | done | rfl | (simp only [List.length_drop, List.length_take]; rfl)) ?_; (with_reducible refine (date_Date.calls kj6 (wrap64 (a0 + 1)) t133 t134 t135 t136 _ A17.out).mono ?_); rintro e w93 ⟨rfl, hb⟩; refine ⟨_, rfl, ?_⟩; have n0_ := Aside0.mk (below_step (by repeat (first | (with_reducible first | exact HB.out | apply below_alloc | apply pw_below_drewN | apply below_drew1) | exact HB.out)) hb); clear HB; have HB := n0_; clear n0_; (try clear hb); (try clear hb2); (try clear hk); (try clear hi)))
                        go_ret
                        exact ⟨by first | rfl | (simp [errW_none, errW_some] <;> rfl) | (simp [*, errW_none, errW_some] <;> rfl), by repeat (first | (with_reducible first | exact HB.out | apply below_alloc | apply pw_below_drewN | apply below_drew1) | exact HB.out)⟩
                      · rw [if_neg c92] at H
                        have c92b0 : (t134 == 1) = false := beq_eq_false_iff_ne.mpr c92
                        have c92b1 : (t134 != 1) = true := bne_iff_ne.mpr c92
                        obtain rfl := Option.some.inj H
                        go_wp2_with (first | ((with_reducible refine gate_callee (f := 15) rfl ?_); refine goesL_ (some 72) rfl rfl Try.func15 (by kernel_rfl) rfl #[.int .i64 (wrap64 (a0 + 1))] rfl (by (try simp only [List.map_toArray, List.map_cons, List.map_nil]); first | done | rfl | (simp only [List.length_drop, List.length_take]; rfl)) ?_; (with_reducible refine (date_Date.calls kj6 (wrap64 (a0 + 1)) t133 t134 t135 t136 _ A17.out).mono ?_); rintro e w94 ⟨rfl, hb⟩; refine ⟨_, rfl, ?_⟩; have n0_ := Aside0.mk (below_step (by repeat (first | (with_reducible first | exact HB.out | apply below_alloc | apply pw_below_drewN | apply below_drew1) | exact HB.out)) hb); clear HB; have HB := n0_; clear n0_; (try clear hb); (try clear hb2); (try clear hk); (try clear hi)))
                        go_ret
                        exact ⟨by first | rfl | (simp [errW_none, errW_some] <;> rfl) | (simp [*, errW_none, errW_some] <;> rfl), by repeat (first | (with_reducible first | exact HB.out | apply below_alloc | apply pw_below_drewN | apply below_drew1) | exact HB.out)⟩
                    · rw [if_neg c91] at H
                      have c91b0 : (t133 == (wrap64 (t121 + 1))) = false := beq_eq_false_iff_ne.mpr c91
                      have c91b1 : (t133 != (wrap64 (t121 + 1))) = true := bne_iff_ne.mpr c91
                      obtain rfl := Option.some.inj H
                      go_wp2_with (first | ((with_reducible refine gate_callee (f := 15) rfl ?_); refine goesL_ (some 72) rfl rfl Try.func15 (by kernel_rfl) rfl #[.int .i64 (wrap64 (a0 + 1))] rfl (by (try simp only [List.map_toArray, List.map_cons, List.map_nil]); first | done | rfl | (simp only [List.length_drop, List.length_take]; rfl)) ?_; (with_reducible refine (date_Date.calls kj6 (wrap64 (a0 + 1)) t133 t134 t135 t136 _ A17.out).mono ?_); rintro e w95 ⟨rfl, hb⟩; refine ⟨_, rfl, ?_⟩; have n0_ := Aside0.mk (below_step (by repeat (first | (with_reducible first | exact HB.out | apply below_alloc | apply pw_below_drewN | apply below_drew1) | exact HB.out)) hb); clear HB; have HB := n0_; clear n0_; (try clear hb); (try clear hb2); (try clear hk); (try clear hi)))
                      go_ret
                      exact ⟨by first | rfl | (simp [errW_none, errW_some] <;> rfl) | (simp [*, errW_none, errW_some] <;> rfl), by repeat (first | (with_reducible first | exact HB.out | apply below_alloc | apply pw_below_drewN | apply below_drew1) | exact HB.out)⟩
                · rw [if_neg c67] at H
                  have c67b0 : (t134 == (wrap64 (t122 + 1))) = false := beq_eq_false_iff_ne.mpr c67
                  have c67b1 : (t134 != (wrap64 (t122 + 1))) = true := bne_iff_ne.mpr c67
                  by_cases c96 : t133 = (wrap64 (t121 + 1))
                  · rw [if_pos c96] at H
                    have c96b0 : (t133 == (wrap64 (t121 + 1))) = true := beq_iff_eq.mpr c96
                    have c96b1 : (t133 != (wrap64 (t121 + 1))) = false := bne_eq_false_iff_eq.mpr c96
                    clear c96
                    by_cases c97 : t134 = 1
                    · rw [if_pos c97] at H
                      have c97b0 : (t134 == 1) = true := beq_iff_eq.mpr c97
                      have c97b1 : (t134 != 1) = false := bne_eq_false_iff_eq.mpr c97
                      clear c97
                      by_cases c98 : t135 = 1
                      · rw [if_pos c98] at H
                        have c98b0 : (t135 == 1) = true := beq_iff_eq.mpr c98
                        have c98b1 : (t135 != 1) = false := bne_eq_false_iff_eq.mpr c98
                        clear c98
                        by_cases c99 : t122 = 12
                        · rw [if_pos c99] at H
                          have c99b0 : (t122 == 12) = true := beq_iff_eq.mpr c99
                          have c99b1 : (t122 != 12) = false := bne_eq_false_iff_eq.mpr c99
                          clear c99
                          by_cases c100 : t123 = 31
                          · rw [if_pos c100] at H
                            have c100b0 : (t123 == 31) = true := beq_iff_eq.mpr c100
                            have c100b1 : (t123 != 31) = false := bne_eq_false_iff_eq.mpr c100
                            clear c100
                            replace H := Option.bind_eq_some_iff.mp H
                            obtain ⟨t145, A1010, H⟩ := H
                            replace H : (some t145) = some r := H
                            have A101 := Aside0.mk A1010
                            clear A1010
                            obtain rfl := Option.some.inj H
                            go_wp2_with (first | ((with_reducible refine gate_callee (f := 15) rfl ?_); refine goesL_ (some 72) rfl rfl Try.func15 (by kernel_rfl) rfl #[.int .i64 (wrap64 (a0 + 1))] rfl (by (try simp only [List.map_toArray, List.map_cons, List.map_nil]); first | done | rfl | (simp only [List.length_drop, List.length_take]; rfl)) ?_; (with_reducible refine (date_Date.calls kj6 (wrap64 (a0 + 1)) t133 t134 t135 t136 _ A17.out).mono ?_); rintro e w102 ⟨rfl, hb⟩; refine ⟨_, rfl, ?_⟩; have n0_ := Aside0.mk (below_step (by repeat (first | (with_reducible first | exact HB.out | apply below_alloc | apply pw_below_drewN | apply below_drew1) | exact HB.out)) hb); clear HB; have HB := n0_; clear n0_; (try clear hb); (try clear hb2); (try clear hk); (try clear hi)) | (go_at_call 14; (with_reducible refine (dayshiftlaw01_known.calls kj6  t145 _ A101.out).mono ?_); rintro e w103 ⟨rfl, hb⟩; have n0_ := Aside0.mk (below_step (by repeat (first | (with_reducible first | exact HB.out | apply below_alloc | apply pw_below_drewN | apply below_drew1) | exact HB.out)) hb); clear HB; have HB := n0_; clear n0_; (try clear hb); (try clear hb2); (try clear hk); (try clear hi)))
                            go_ret
                            exact ⟨by first | rfl | (simp [errW_none, errW_some] <;> rfl) | (simp [*, errW_none, errW_some] <;> rfl), by repeat (first | (with_reducible first | exact HB.out | apply below_alloc | apply pw_below_drewN | apply below_drew1) | exact HB.out)⟩
                          · rw [if_neg c100] at H
                            have c100b0 : (t123 == 31) = false := beq_eq_false_iff_ne.mpr c100
                            have c100b1 : (t123 != 31) = true := bne_iff_ne.mpr c100
                            obtain rfl := Option.some.inj H
                            go_wp2_with (first | ((with_reducible refine gate_callee (f := 15) rfl ?_); refine goesL_ (some 72) rfl rfl Try.func15 (by kernel_rfl) rfl #[.int .i64 (wrap64 (a0 + 1))] rfl (by (try simp only [List.map_toArray, List.map_cons, List.map_nil]); first | done | rfl | (simp only [List.length_drop, List.length_take]; rfl)) ?_; (with_reducible refine (date_Date.calls kj6 (wrap64 (a0 + 1)) t133 t134 t135 t136 _ A17.out).mono ?_); rintro e w104 ⟨rfl, hb⟩; refine ⟨_, rfl, ?_⟩; have n0_ := Aside0.mk (below_step (by repeat (first | (with_reducible first | exact HB.out | apply below_alloc | apply pw_below_drewN | apply below_drew1) | exact HB.out)) hb); clear HB; have HB := n0_; clear n0_; (try clear hb); (try clear hb2); (try clear hk); (try clear hi)))
                            go_ret
                            exact ⟨by first | rfl | (simp [errW_none, errW_some] <;> rfl) | (simp [*, errW_none, errW_some] <;> rfl), by repeat (first | (with_reducible first | exact HB.out | apply below_alloc | apply pw_below_drewN | apply below_drew1) | exact HB.out)⟩
                        · rw [if_neg c99] at H
                          have c99b0 : (t122 == 12) = false := beq_eq_false_iff_ne.mpr c99
                          have c99b1 : (t122 != 12) = true := bne_iff_ne.mpr c99
                          obtain rfl := Option.some.inj H
                          go_wp2_with (first | ((with_reducible refine gate_callee (f := 15) rfl ?_); refine goesL_ (some 72) rfl rfl Try.func15 (by kernel_rfl) rfl #[.int .i64 (wrap64 (a0 + 1))] rfl (by (try simp only [List.map_toArray, List.map_cons, List.map_nil]); first | done | rfl | (simp only [List.length_drop, List.length_take]; rfl)) ?_; (with_reducible refine (date_Date.calls kj6 (wrap64 (a0 + 1)) t133 t134 t135 t136 _ A17.out).mono ?_); rintro e w105 ⟨rfl, hb⟩; refine ⟨_, rfl, ?_⟩; have n0_ := Aside0.mk (below_step (by repeat (first | (with_reducible first | exact HB.out | apply below_alloc | apply pw_below_drewN | apply below_drew1) | exact HB.out)) hb); clear HB; have HB := n0_; clear n0_; (try clear hb); (try clear hb2); (try clear hk); (try clear hi)))
                          go_ret
                          exact ⟨by first | rfl | (simp [errW_none, errW_some] <;> rfl) | (simp [*, errW_none, errW_some] <;> rfl), by repeat (first | (with_reducible first | exact HB.out | apply below_alloc | apply pw_below_drewN | apply below_drew1) | exact HB.out)⟩
                      · rw [if_neg c98] at H
                        have c98b0 : (t135 == 1) = false := beq_eq_false_iff_ne.mpr c98
                        have c98b1 : (t135 != 1) = true := bne_iff_ne.mpr c98
                        obtain rfl := Option.some.inj H
                        go_wp2_with (first | ((with_reducible refine gate_callee (f := 15) rfl ?_); refine goesL_ (some 72) rfl rfl Try.func15 (by kernel_rfl) rfl #[.int .i64 (wrap64 (a0 + 1))] rfl (by (try simp only [List.map_toArray, List.map_cons, List.map_nil]); first | done | rfl | (simp only [List.length_drop, List.length_take]; rfl)) ?_; (with_reducible refine (date_Date.calls kj6 (wrap64 (a0 + 1)) t133 t134 t135 t136 _ A17.out).mono ?_); rintro e w106 ⟨rfl, hb⟩; refine ⟨_, rfl, ?_⟩; have n0_ := Aside0.mk (below_step (by repeat (first | (with_reducible first | exact HB.out | apply below_alloc | apply pw_below_drewN | apply below_drew1) | exact HB.out)) hb); clear HB; have HB := n0_; clear n0_; (try clear hb); (try clear hb2); (try clear hk); (try clear hi)))
                        go_ret
                        exact ⟨by first | rfl | (simp [errW_none, errW_some] <;> rfl) | (simp [*, errW_none, errW_some] <;> rfl), by repeat (first | (with_reducible first | exact HB.out | apply below_alloc | apply pw_below_drewN | apply below_drew1) | exact HB.out)⟩
                    · rw [if_neg c97] at H
                      have c97b0 : (t134 == 1) = false := beq_eq_false_iff_ne.mpr c97
                      have c97b1 : (t134 != 1) = true := bne_iff_ne.mpr c97
                      obtain rfl := Option.some.inj H
                      go_wp2_with (first | ((with_reducible refine gate_callee (f := 15) rfl ?_); refine goesL_ (some 72) rfl rfl Try.func15 (by kernel_rfl) rfl #[.int .i64 (wrap64 (a0 + 1))] rfl (by (try simp only [List.map_toArray, List.map_cons, List.map_nil]); first | done | rfl | (simp only [List.length_drop, List.length_take]; rfl)) ?_; (with_reducible refine (date_Date.calls kj6 (wrap64 (a0 + 1)) t133 t134 t135 t136 _ A17.out).mono ?_); rintro e w107 ⟨rfl, hb⟩; refine ⟨_, rfl, ?_⟩; have n0_ := Aside0.mk (below_step (by repeat (first | (with_reducible first | exact HB.out | apply below_alloc | apply pw_below_drewN | apply below_drew1) | exact HB.out)) hb); clear HB; have HB := n0_; clear n0_; (try clear hb); (try clear hb2); (try clear hk); (try clear hi)))
                      go_ret
                      exact ⟨by first | rfl | (simp [errW_none, errW_some] <;> rfl) | (simp [*, errW_none, errW_some] <;> rfl), by repeat (first | (with_reducible first | exact HB.out | apply below_alloc | apply pw_below_drewN | apply below_drew1) | exact HB.out)⟩
                  · rw [if_neg c96] at H
                    have c96b0 : (t133 == (wrap64 (t121 + 1))) = false := beq_eq_false_iff_ne.mpr c96
                    have c96b1 : (t133 != (wrap64 (t121 + 1))) = true := bne_iff_ne.mpr c96
                    obtain rfl := Option.some.inj H
                    go_wp2_with (first | ((with_reducible refine gate_callee (f := 15) rfl ?_); refine goesL_ (some 72) rfl rfl Try.func15 (by kernel_rfl) rfl #[.int .i64 (wrap64 (a0 + 1))] rfl (by (try simp only [List.map_toArray, List.map_cons, List.map_nil]); first | done | rfl | (simp only [List.length_drop, List.length_take]; rfl)) ?_; (with_reducible refine (date_Date.calls kj6 (wrap64 (a0 + 1)) t133 t134 t135 t136 _ A17.out).mono ?_); rintro e w108 ⟨rfl, hb⟩; refine ⟨_, rfl, ?_⟩; have n0_ := Aside0.mk (below_step (by repeat (first | (with_reducible first | exact HB.out | apply below_alloc | apply pw_below_drewN | apply below_drew1) | exact HB.out)) hb); clear HB; have HB := n0_; clear n0_; (try clear hb); (try clear hb2); (try clear hk); (try clear hi)))
                    go_ret
                    exact ⟨by first | rfl | (simp [errW_none, errW_some] <;> rfl) | (simp [*, errW_none, errW_some] <;> rfl), by repeat (first | (with_reducible first | exact HB.out | apply below_alloc | apply pw_below_drewN | apply below_drew1) | exact HB.out)⟩
            · rw [if_neg c19] at H
              have c19b0 : (t133 == t121) = false := beq_eq_false_iff_ne.mpr c19
              have c19b1 : (t133 != t121) = true := bne_iff_ne.mpr c19
              by_cases c109 : t133 = (wrap64 (t121 + 1))
              · rw [if_pos c109] at H
                have c109b0 : (t133 == (wrap64 (t121 + 1))) = true := beq_iff_eq.mpr c109
                have c109b1 : (t133 != (wrap64 (t121 + 1))) = false := bne_eq_false_iff_eq.mpr c109
                clear c109
                by_cases c110 : t134 = 1
                · rw [if_pos c110] at H
                  have c110b0 : (t134 == 1) = true := beq_iff_eq.mpr c110
                  have c110b1 : (t134 != 1) = false := bne_eq_false_iff_eq.mpr c110
                  clear c110
                  by_cases c111 : t135 = 1
                  · rw [if_pos c111] at H
                    have c111b0 : (t135 == 1) = true := beq_iff_eq.mpr c111
                    have c111b1 : (t135 != 1) = false := bne_eq_false_iff_eq.mpr c111
                    clear c111
                    by_cases c112 : t122 = 12
                    · rw [if_pos c112] at H
                      have c112b0 : (t122 == 12) = true := beq_iff_eq.mpr c112
                      have c112b1 : (t122 != 12) = false := bne_eq_false_iff_eq.mpr c112
                      clear c112
                      by_cases c113 : t123 = 31
                      · rw [if_pos c113] at H
                        have c113b0 : (t123 == 31) = true := beq_iff_eq.mpr c113
                        have c113b1 : (t123 != 31) = false := bne_eq_false_iff_eq.mpr c113
                        clear c113
                        replace H := Option.bind_eq_some_iff.mp H
                        obtain ⟨t146, A1140, H⟩ := H
                        replace H : (some t146) = some r := H
                        have A114 := Aside0.mk A1140
                        clear A1140
                        obtain rfl := Option.some.inj H
                        go_wp2_with (first | ((with_reducible refine gate_callee (f := 15) rfl ?_); refine goesL_ (some 72) rfl rfl Try.func15 (by kernel_rfl) rfl #[.int .i64 (wrap64 (a0 + 1))] rfl (by (try simp only [List.map_toArray, List.map_cons, List.map_nil]); first | done | rfl | (simp only [List.length_drop, List.length_take]; rfl)) ?_; (with_reducible refine (date_Date.calls kj6 (wrap64 (a0 + 1)) t133 t134 t135 t136 _ A17.out).mono ?_); rintro e w115 ⟨rfl, hb⟩; refine ⟨_, rfl, ?_⟩; have n0_ := Aside0.mk (below_step (by repeat (first | (with_reducible first | exact HB.out | apply below_alloc | apply pw_below_drewN | apply below_drew1) | exact HB.out)) hb); clear HB; have HB := n0_; clear n0_; (try clear hb); (try clear hb2); (try clear hk); (try clear hi)) | (go_at_call 14; (with_reducible refine (dayshiftlaw01_known.calls kj6  t146 _ A114.out).mono ?_); rintro e w116 ⟨rfl, hb⟩; have n0_ := Aside0.mk (below_step (by repeat (first | (with_reducible first | exact HB.out | apply below_alloc | apply pw_below_drewN | apply below_drew1) | exact HB.out)) hb); clear HB; have HB := n0_; clear n0_; (try clear hb); (try clear hb2); (try clear hk); (try clear hi)))
                        go_ret
                        exact ⟨by first | rfl | (simp [errW_none, errW_some] <;> rfl) | (simp [*, errW_none, errW_some] <;> rfl), by repeat (first | (with_reducible first | exact HB.out | apply below_alloc | apply pw_below_drewN | apply below_drew1) | exact HB.out)⟩
                      · rw [if_neg c113] at H
                        have c113b0 : (t123 == 31) = false := beq_eq_false_iff_ne.mpr c113
                        have c113b1 : (t123 != 31) = true := bne_iff_ne.mpr c113
                        obtain rfl := Option.some.inj H
                        go_wp2_with (first | ((with_reducible refine gate_callee (f := 15) rfl ?_); refine goesL_ (some 72) rfl rfl Try.func15 (by kernel_rfl) rfl #[.int .i64 (wrap64 (a0 + 1))] rfl (by (try simp only [List.map_toArray, List.map_cons, List.map_nil]); first | done | rfl | (simp only [List.length_drop, List.length_take]; rfl)) ?_; (with_reducible refine (date_Date.calls kj6 (wrap64 (a0 + 1)) t133 t134 t135 t136 _ A17.out).mono ?_); rintro e w117 ⟨rfl, hb⟩; refine ⟨_, rfl, ?_⟩; have n0_ := Aside0.mk (below_step (by repeat (first | (with_reducible first | exact HB.out | apply below_alloc | apply pw_below_drewN | apply below_drew1) | exact HB.out)) hb); clear HB; have HB := n0_; clear n0_; (try clear hb); (try clear hb2); (try clear hk); (try clear hi)))
                        go_ret
                        exact ⟨by first | rfl | (simp [errW_none, errW_some] <;> rfl) | (simp [*, errW_none, errW_some] <;> rfl), by repeat (first | (with_reducible first | exact HB.out | apply below_alloc | apply pw_below_drewN | apply below_drew1) | exact HB.out)⟩
                    · rw [if_neg c112] at H
                      have c112b0 : (t122 == 12) = false := beq_eq_false_iff_ne.mpr c112
                      have c112b1 : (t122 != 12) = true := bne_iff_ne.mpr c112
                      obtain rfl := Option.some.inj H
                      go_wp2_with (first | ((with_reducible refine gate_callee (f := 15) rfl ?_); refine goesL_ (some 72) rfl rfl Try.func15 (by kernel_rfl) rfl #[.int .i64 (wrap64 (a0 + 1))] rfl (by (try simp only [List.map_toArray, List.map_cons, List.map_nil]); first | done | rfl | (simp only [List.length_drop, List.length_take]; rfl)) ?_; (with_reducible refine (date_Date.calls kj6 (wrap64 (a0 + 1)) t133 t134 t135 t136 _ A17.out).mono ?_); rintro e w118 ⟨rfl, hb⟩; refine ⟨_, rfl, ?_⟩; have n0_ := Aside0.mk (below_step (by repeat (first | (with_reducible first | exact HB.out | apply below_alloc | apply pw_below_drewN | apply below_drew1) | exact HB.out)) hb); clear HB; have HB := n0_; clear n0_; (try clear hb); (try clear hb2); (try clear hk); (try clear hi)))
                      go_ret
                      exact ⟨by first | rfl | (simp [errW_none, errW_some] <;> rfl) | (simp [*, errW_none, errW_some] <;> rfl), by repeat (first | (with_reducible first | exact HB.out | apply below_alloc | apply pw_below_drewN | apply below_drew1) | exact HB.out)⟩
                  · rw [if_neg c111] at H
                    have c111b0 : (t135 == 1) = false := beq_eq_false_iff_ne.mpr c111
                    have c111b1 : (t135 != 1) = true := bne_iff_ne.mpr c111
                    obtain rfl := Option.some.inj H
                    go_wp2_with (first | ((with_reducible refine gate_callee (f := 15) rfl ?_); refine goesL_ (some 72) rfl rfl Try.func15 (by kernel_rfl) rfl #[.int .i64 (wrap64 (a0 + 1))] rfl (by (try simp only [List.map_toArray, List.map_cons, List.map_nil]); first | done | rfl | (simp only [List.length_drop, List.length_take]; rfl)) ?_; (with_reducible refine (date_Date.calls kj6 (wrap64 (a0 + 1)) t133 t134 t135 t136 _ A17.out).mono ?_); rintro e w119 ⟨rfl, hb⟩; refine ⟨_, rfl, ?_⟩; have n0_ := Aside0.mk (below_step (by repeat (first | (with_reducible first | exact HB.out | apply below_alloc | apply pw_below_drewN | apply below_drew1) | exact HB.out)) hb); clear HB; have HB := n0_; clear n0_; (try clear hb); (try clear hb2); (try clear hk); (try clear hi)))
                    go_ret
                    exact ⟨by first | rfl | (simp [errW_none, errW_some] <;> rfl) | (simp [*, errW_none, errW_some] <;> rfl), by repeat (first | (with_reducible first | exact HB.out | apply below_alloc | apply pw_below_drewN | apply below_drew1) | exact HB.out)⟩
                · rw [if_neg c110] at H
                  have c110b0 : (t134 == 1) = false := beq_eq_false_iff_ne.mpr c110
                  have c110b1 : (t134 != 1) = true := bne_iff_ne.mpr c110
                  obtain rfl := Option.some.inj H
                  go_wp2_with (first | ((with_reducible refine gate_callee (f := 15) rfl ?_); refine goesL_ (some 72) rfl rfl Try.func15 (by kernel_rfl) rfl #[.int .i64 (wrap64 (a0 + 1))] rfl (by (try simp only [List.map_toArray, List.map_cons, List.map_nil]); first | done | rfl | (simp only [List.length_drop, List.length_take]; rfl)) ?_; (with_reducible refine (date_Date.calls kj6 (wrap64 (a0 + 1)) t133 t134 t135 t136 _ A17.out).mono ?_); rintro e w120 ⟨rfl, hb⟩; refine ⟨_, rfl, ?_⟩; have n0_ := Aside0.mk (below_step (by repeat (first | (with_reducible first | exact HB.out | apply below_alloc | apply pw_below_drewN | apply below_drew1) | exact HB.out)) hb); clear HB; have HB := n0_; clear n0_; (try clear hb); (try clear hb2); (try clear hk); (try clear hi)))
                  go_ret
                  exact ⟨by first | rfl | (simp [errW_none, errW_some] <;> rfl) | (simp [*, errW_none, errW_some] <;> rfl), by repeat (first | (with_reducible first | exact HB.out | apply below_alloc | apply pw_below_drewN | apply below_drew1) | exact HB.out)⟩
              · rw [if_neg c109] at H
                have c109b0 : (t133 == (wrap64 (t121 + 1))) = false := beq_eq_false_iff_ne.mpr c109
                have c109b1 : (t133 != (wrap64 (t121 + 1))) = true := bne_iff_ne.mpr c109
                obtain rfl := Option.some.inj H
                go_wp2_with (first | ((with_reducible refine gate_callee (f := 15) rfl ?_); refine goesL_ (some 72) rfl rfl Try.func15 (by kernel_rfl) rfl #[.int .i64 (wrap64 (a0 + 1))] rfl (by (try simp only [List.map_toArray, List.map_cons, List.map_nil]); first | done | rfl | (simp only [List.length_drop, List.length_take]; rfl)) ?_; (with_reducible refine (date_Date.calls kj6 (wrap64 (a0 + 1)) t133 t134 t135 t136 _ A17.out).mono ?_); rintro e w121 ⟨rfl, hb⟩; refine ⟨_, rfl, ?_⟩; have n0_ := Aside0.mk (below_step (by repeat (first | (with_reducible first | exact HB.out | apply below_alloc | apply pw_below_drewN | apply below_drew1) | exact HB.out)) hb); clear HB; have HB := n0_; clear n0_; (try clear hb); (try clear hb2); (try clear hk); (try clear hi)))
                go_ret
                exact ⟨by first | rfl | (simp [errW_none, errW_some] <;> rfl) | (simp [*, errW_none, errW_some] <;> rfl), by repeat (first | (with_reducible first | exact HB.out | apply below_alloc | apply pw_below_drewN | apply below_drew1) | exact HB.out)⟩
          · rw [if_neg c18] at H
            have c18b0 : (t136 == 0) = false := beq_eq_false_iff_ne.mpr c18
            have c18b1 : (t136 != 0) = true := bne_iff_ne.mpr c18
            by_cases c122 : a0 = 3652059
            · rw [if_pos c122] at H
              have c122b0 : (a0 == 3652059) = true := beq_iff_eq.mpr c122
              have c122b1 : (a0 != 3652059) = false := bne_eq_false_iff_eq.mpr c122
              clear c122
              replace H := Option.bind_eq_some_iff.mp H
              obtain ⟨t147, A1230, H⟩ := H
              replace H : (some t147) = some r := H
              have A123 := Aside0.mk A1230
              clear A1230
              obtain rfl := Option.some.inj H
              go_wp2_with (first | ((with_reducible refine gate_callee (f := 15) rfl ?_); refine goesL_ (some 72) rfl rfl Try.func15 (by kernel_rfl) rfl #[.int .i64 (wrap64 (a0 + 1))] rfl (by (try simp only [List.map_toArray, List.map_cons, List.map_nil]); first | done | rfl | (simp only [List.length_drop, List.length_take]; rfl)) ?_; (with_reducible refine (date_Date.calls kj6 (wrap64 (a0 + 1)) t133 t134 t135 t136 _ A17.out).mono ?_); rintro e w124 ⟨rfl, hb⟩; refine ⟨_, rfl, ?_⟩; have n0_ := Aside0.mk (below_step (by repeat (first | (with_reducible first | exact HB.out | apply below_alloc | apply pw_below_drewN | apply below_drew1) | exact HB.out)) hb); clear HB; have HB := n0_; clear n0_; (try clear hb); (try clear hb2); (try clear hk); (try clear hi)) | (go_at_call 14; (with_reducible refine (dayshiftlaw01_known.calls kj6  t147 _ A123.out).mono ?_); rintro e w125 ⟨rfl, hb⟩; have n0_ := Aside0.mk (below_step (by repeat (first | (with_reducible first | exact HB.out | apply below_alloc | apply pw_below_drewN | apply below_drew1) | exact HB.out)) hb); clear HB; have HB := n0_; clear n0_; (try clear hb); (try clear hb2); (try clear hk); (try clear hi)))
              go_ret
              exact ⟨by first | rfl | (simp [errW_none, errW_some] <;> rfl) | (simp [*, errW_none, errW_some] <;> rfl), by repeat (first | (with_reducible first | exact HB.out | apply below_alloc | apply pw_below_drewN | apply below_drew1) | exact HB.out)⟩
            · rw [if_neg c122] at H
              have c122b0 : (a0 == 3652059) = false := beq_eq_false_iff_ne.mpr c122
              have c122b1 : (a0 != 3652059) = true := bne_iff_ne.mpr c122
              obtain rfl := Option.some.inj H
              go_wp2_with (first | ((with_reducible refine gate_callee (f := 15) rfl ?_); refine goesL_ (some 72) rfl rfl Try.func15 (by kernel_rfl) rfl #[.int .i64 (wrap64 (a0 + 1))] rfl (by (try simp only [List.map_toArray, List.map_cons, List.map_nil]); first | done | rfl | (simp only [List.length_drop, List.length_take]; rfl)) ?_; (with_reducible refine (date_Date.calls kj6 (wrap64 (a0 + 1)) t133 t134 t135 t136 _ A17.out).mono ?_); rintro e w126 ⟨rfl, hb⟩; refine ⟨_, rfl, ?_⟩; have n0_ := Aside0.mk (below_step (by repeat (first | (with_reducible first | exact HB.out | apply below_alloc | apply pw_below_drewN | apply below_drew1) | exact HB.out)) hb); clear HB; have HB := n0_; clear n0_; (try clear hb); (try clear hb2); (try clear hk); (try clear hi)))
              go_ret
              exact ⟨by first | rfl | (simp [errW_none, errW_some] <;> rfl) | (simp [*, errW_none, errW_some] <;> rfl), by repeat (first | (with_reducible first | exact HB.out | apply below_alloc | apply pw_below_drewN | apply below_drew1) | exact HB.out)⟩
  · rw [if_neg c3] at H
    have c3b0 : (t124 == 0) = false := beq_eq_false_iff_ne.mpr c3
    have c3b1 : (t124 != 0) = true := bne_iff_ne.mpr c3
    replace H := Option.bind_eq_some_iff.mp H
    obtain ⟨t125, A1270, H⟩ := H
    replace H : (if t125 = true then (some false) else ((dayshiftlaw01_known.f k).bind fun t126 => (some t126))) = some r := H
    have A127 := Aside0.mk A1270
    clear A1270
    by_cases c128 : t125 = true
    · subst c128
      have H1 : (some false) = some r := by rw [if_pos rfl] at H; exact H
      clear H
      have H := H1
      clear H1
      obtain rfl := Option.some.inj H
      go_enter Try.func7, Try.ntmps7
      go_wp2_with (first | ((with_reducible refine gate_callee (f := 15) rfl ?_); refine goesL_ (some 19) rfl rfl Try.func15 (by kernel_rfl) rfl #[.int .i64 a0] rfl (by (try simp only [List.map_toArray, List.map_cons, List.map_nil]); first | done | rfl | (simp only [List.length_drop, List.length_take]; rfl)) ?_; (with_reducible refine (date_Date.calls k a0 t121 t122 t123 t124 _ A2.out).mono ?_); rintro e w129 ⟨rfl, hb⟩; refine ⟨_, rfl, ?_⟩; have n0_ := Aside0.mk (below_step (by repeat (first | (with_reducible first | exact HB.out | apply below_alloc | apply pw_below_drewN | apply below_drew1) | exact HB.out)) hb); clear HB; have HB := n0_; clear n0_; (try clear hb); (try clear hb2); (try clear hk); (try clear hi)) | ((with_reducible refine gate_callee (f := 20) rfl ?_); refine goesL_ (some 27) rfl rfl Try.func20 (by kernel_rfl) rfl #[.int .i64 a0] rfl (by (try simp only [List.map_toArray, List.map_cons, List.map_nil]); first | done | rfl | (simp only [List.length_drop, List.length_take]; rfl)) ?_; (with_reducible refine (dayshiftref01_Right.calls a0 true _ A127.out).mono ?_); rintro e w' ⟨rfl, ⟨nd, rfl⟩⟩; refine ⟨_, rfl, ?_⟩))
      go_ret
      exact ⟨by first | rfl | (simp [errW_none, errW_some] <;> rfl) | (simp [*, errW_none, errW_some] <;> rfl), by repeat (first | (with_reducible first | exact HB.out | apply below_alloc | apply pw_below_drewN | apply below_drew1) | exact HB.out)⟩
    · replace c128 := Bool.eq_false_iff.mpr c128
      subst c128
      have H1 : ((dayshiftlaw01_known.f k).bind fun t126 => (some t126)) = some r := by rw [if_neg (show ¬ (false = true) by decide)] at H; exact H
      clear H
      have H := H1
      clear H1
      replace H := Option.bind_eq_some_iff.mp H
      obtain ⟨t126, A1300, H⟩ := H
      replace H : (some t126) = some r := H
      have A130 := Aside0.mk A1300
      clear A1300
      obtain rfl := Option.some.inj H
      go_enter Try.func7, Try.ntmps7
      go_wp2_with (first | ((with_reducible refine gate_callee (f := 15) rfl ?_); refine goesL_ (some 19) rfl rfl Try.func15 (by kernel_rfl) rfl #[.int .i64 a0] rfl (by (try simp only [List.map_toArray, List.map_cons, List.map_nil]); first | done | rfl | (simp only [List.length_drop, List.length_take]; rfl)) ?_; (with_reducible refine (date_Date.calls k a0 t121 t122 t123 t124 _ A2.out).mono ?_); rintro e w131 ⟨rfl, hb⟩; refine ⟨_, rfl, ?_⟩; have n0_ := Aside0.mk (below_step (by repeat (first | (with_reducible first | exact HB.out | apply below_alloc | apply pw_below_drewN | apply below_drew1) | exact HB.out)) hb); clear HB; have HB := n0_; clear n0_; (try clear hb); (try clear hb2); (try clear hk); (try clear hi)) | ((with_reducible refine gate_callee (f := 20) rfl ?_); refine goesL_ (some 27) rfl rfl Try.func20 (by kernel_rfl) rfl #[.int .i64 a0] rfl (by (try simp only [List.map_toArray, List.map_cons, List.map_nil]); first | done | rfl | (simp only [List.length_drop, List.length_take]; rfl)) ?_; (with_reducible refine (dayshiftref01_Right.calls a0 false _ A127.out).mono ?_); rintro e w' ⟨rfl, ⟨nd, rfl⟩⟩; refine ⟨_, rfl, ?_⟩) | (go_at_call 14; (with_reducible refine (dayshiftlaw01_known.calls k  t126 _ A130.out).mono ?_); rintro e w132 ⟨rfl, hb⟩; have n0_ := Aside0.mk (below_step (by repeat (first | (with_reducible first | exact HB.out | apply below_alloc | apply pw_below_drewN | apply below_drew1) | exact HB.out)) hb); clear HB; have HB := n0_; clear n0_; (try clear hb); (try clear hb2); (try clear hk); (try clear hi)))
      go_ret
      exact ⟨by first | rfl | (simp [errW_none, errW_some] <;> rfl) | (simp [*, errW_none, errW_some] <;> rfl), by repeat (first | (with_reducible first | exact HB.out | apply below_alloc | apply pw_below_drewN | apply below_drew1) | exact HB.out)⟩

/-- THE ONE PURE STATEMENT of dayshiftlaw01_DateBack: yours. -/
def dayshiftlaw01_DateBack.Pure : Prop := ∀ (a0 : Int), (Lit.int .i64 a0).wf = true → ∃ k, dayshiftlaw01_DateBack.f k a0 = some true
theorem dayshiftlaw01_DateBack.walk (P : dayshiftlaw01_DateBack.Pure) (a0 : Int) (w : World) (w0 : (Lit.int .i64 a0).wf = true) :
    Calls Try.prog 7 #[.int .i64 a0] w fun e w' => e = .returned (.bool true) ∧ Below w.heap.size w w' := by
  obtain ⟨k, h⟩ := P a0 w0
  refine (dayshiftlaw01_DateBack.calls k a0 true w h).mono ?_
  rintro e w' ⟨rfl, hd⟩
  exact ⟨rfl, hd⟩

end Go.Proofs.Ytkeecpgfpoaplaa.PDateBack
