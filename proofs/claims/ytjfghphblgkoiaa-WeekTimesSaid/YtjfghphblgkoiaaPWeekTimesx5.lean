/- This text holds, for Go functions of the given program, Lean functions with the same answers, and proofs that the machine's calls come to these answers; each theorem names its own conditions. It was laid by a program of this session. -/
import Derived.Test.YtjfghphblgkoiaaPWeekTimesx0
import Derived.Test.YtjfghphblgkoiaaPWeekTimesx2
import Derived.Test.YtjfghphblgkoiaaPWeekTimesx3
import Derived.Test.YtjfghphblgkoiaaPWeekTimesx4
namespace Go.Proofs.Ytjfghphblgkoiaa.PWeekTimes
open Go.RowKit Go.Proofs.YtjfghphblgkoiaaW.PrintWords Go.Proofs.YtjfghphblgkoiaaW.PrintLast Go.Proofs.YtjfghphblgkoiaaW.PrintMore
attribute [local go_sem] max2_int min2_int max_two min_two max_three min_three max_four min_four   -- for this text's walks alone
set_option linter.unusedVariables false
set_option linter.unusedSimpArgs false

/-! ### dayshiftlaw02_WeekTimes: function 7 -/
def dayshiftlaw02_WeekTimes.j0 : Nat → Int → ByteArray → Int → Bool → Option (Bool)
  | 0, _, _, _, _ => none
  | k + 1, x0, x5, x8, x52 => if x52 = true then (some false) else (if x8 = 0 then ((week_Read.f x5).bind fun bt176 => (if bt176.1 = x0 then (if bt176.2 = 0 then ((dayshiftlaw02_known.f k).bind fun t178 => (some t178)) else (some false)) else (some false))) else ((dayshiftlaw02_known.f k).bind fun t179 => (some t179)))
def dayshiftlaw02_WeekTimes.f (k : Nat) (a0 : Int) (a1 : ByteArray) : Option (Bool) := (week_Text.f a0).bind fun bt168 => ((dayshiftref02_Text.f k a0).bind fun bt170 => ((week_Read.f a1).bind fun bt172 => ((dayshiftref02_Read.f k a1).bind fun bt174 => (if bt168.1.toList = bt170.1.toList then (if bt168.2 = bt170.2 then (if bt172.1 = bt174.1 then (dayshiftlaw02_WeekTimes.j0 k a0 bt168.1 bt170.2 (bt172.2 != bt174.2)) else (dayshiftlaw02_WeekTimes.j0 k a0 bt168.1 bt170.2 true)) else (dayshiftlaw02_WeekTimes.j0 k a0 bt168.1 bt170.2 true)) else (dayshiftlaw02_WeekTimes.j0 k a0 bt168.1 bt170.2 true)))))
theorem dayshiftlaw02_WeekTimes.mono_l : ∀ k, (∀ y0 y1 y2 y3, LeO (dayshiftlaw02_WeekTimes.j0 k y0 y1 y2 y3) (dayshiftlaw02_WeekTimes.j0 (k + 1) y0 y1 y2 y3))
  | 0 => fun _ _ _ _ r h => by simp [dayshiftlaw02_WeekTimes.j0] at h
  | k + 1 => by
    have ih0 := dayshiftlaw02_WeekTimes.mono_l k
    · intro y0 y1 y2 y3
      unfold dayshiftlaw02_WeekTimes.j0
      repeat' first
      | (with_reducible exact ih0 _ _ _ _)
      | (with_reducible exact dayshiftlaw02_known.mono _)
      | (with_reducible exact dayshiftref02_Read.mono _ _)
      | (with_reducible exact dayshiftref02_Text.mono _ _)
      | (with_reducible exact LeO.refl _)
      | (with_reducible exact LeO.none _)
      | (with_reducible refine LeO.ite ?_ ?_)
      | (with_reducible refine LeO.bind ?_ (fun _ => ?_))
      | exact ih0 _ _ _ _
      | exact dayshiftlaw02_known.mono _
      | exact dayshiftref02_Read.mono _ _
      | exact dayshiftref02_Text.mono _ _
      | exact LeO.none _
      | refine LeO.ite ?_ ?_
      | refine LeO.bind ?_ (fun _ => ?_)
theorem dayshiftlaw02_WeekTimes.mono : ∀ a0 a1 k, LeO (dayshiftlaw02_WeekTimes.f k a0 a1) (dayshiftlaw02_WeekTimes.f (k + 1) a0 a1) := by
  intro a0 a1 k
  have ih0 := dayshiftlaw02_WeekTimes.mono_l k
  unfold dayshiftlaw02_WeekTimes.f
  repeat' first
      | (with_reducible exact ih0 _ _ _ _)
      | (with_reducible exact dayshiftlaw02_known.mono _)
      | (with_reducible exact dayshiftref02_Read.mono _ _)
      | (with_reducible exact dayshiftref02_Text.mono _ _)
      | (with_reducible exact LeO.refl _)
      | (with_reducible exact LeO.none _)
      | (with_reducible refine LeO.ite ?_ ?_)
      | (with_reducible refine LeO.bind ?_ (fun _ => ?_))
      | exact ih0 _ _ _ _
      | exact dayshiftlaw02_known.mono _
      | exact dayshiftref02_Read.mono _ _
      | exact dayshiftref02_Text.mono _ _
      | exact LeO.none _
      | refine LeO.ite ?_ ?_
      | refine LeO.bind ?_ (fun _ => ?_)
set_option maxHeartbeats 8000000 in
set_option maxRecDepth 100000 in
theorem dayshiftlaw02_WeekTimes.calls (k : Nat) (a0 : Int) (a1 : ByteArray) (r : Bool) (w : World) (h : dayshiftlaw02_WeekTimes.f k a0 a1 = some r) :
    Calls Try.prog 7 #[.int .i64 a0, .string a1] w fun e w' => e = .returned (.bool r) ∧ Below w.heap.size w w' := by
  have HB := Aside0.mk (Below.refl w.heap.size w)
  have H : ((week_Text.f a0).bind fun bt168 => ((dayshiftref02_Text.f k a0).bind fun bt170 => ((week_Read.f a1).bind fun bt172 => ((dayshiftref02_Read.f k a1).bind fun bt174 => (if bt168.1.toList = bt170.1.toList then (if bt168.2 = bt170.2 then (if bt172.1 = bt174.1 then (dayshiftlaw02_WeekTimes.j0 k a0 bt168.1 bt170.2 (bt172.2 != bt174.2)) else (dayshiftlaw02_WeekTimes.j0 k a0 bt168.1 bt170.2 true)) else (dayshiftlaw02_WeekTimes.j0 k a0 bt168.1 bt170.2 true)) else (dayshiftlaw02_WeekTimes.j0 k a0 bt168.1 bt170.2 true)))))) = some r := h
  clear h
  replace H := Option.bind_eq_some_iff.mp H
  obtain ⟨⟨t168, t169⟩, A30, H⟩ := H
  replace H : ((dayshiftref02_Text.f k a0).bind fun bt170 => ((week_Read.f a1).bind fun bt172 => ((dayshiftref02_Read.f k a1).bind fun bt174 => (if t168.toList = bt170.1.toList then (if t169 = bt170.2 then (if bt172.1 = bt174.1 then (dayshiftlaw02_WeekTimes.j0 k a0 t168 bt170.2 (bt172.2 != bt174.2)) else (dayshiftlaw02_WeekTimes.j0 k a0 t168 bt170.2 true)) else (dayshiftlaw02_WeekTimes.j0 k a0 t168 bt170.2 true)) else (dayshiftlaw02_WeekTimes.j0 k a0 t168 bt170.2 true))))) = some r := H
  have A3 := Aside0.mk A30
  clear A30
  replace H := Option.bind_eq_some_iff.mp H
  obtain ⟨⟨t170, t171⟩, A40, H⟩ := H
  replace H : ((week_Read.f a1).bind fun bt172 => ((dayshiftref02_Read.f k a1).bind fun bt174 => (if t168.toList = t170.toList then (if t169 = t171 then (if bt172.1 = bt174.1 then (dayshiftlaw02_WeekTimes.j0 k a0 t168 t171 (bt172.2 != bt174.2)) else (dayshiftlaw02_WeekTimes.j0 k a0 t168 t171 true)) else (dayshiftlaw02_WeekTimes.j0 k a0 t168 t171 true)) else (dayshiftlaw02_WeekTimes.j0 k a0 t168 t171 true)))) = some r := H
  have A4 := Aside0.mk A40
  clear A40
  replace H := Option.bind_eq_some_iff.mp H
  obtain ⟨⟨t172, t173⟩, A50, H⟩ := H
  replace H : ((dayshiftref02_Read.f k a1).bind fun bt174 => (if t168.toList = t170.toList then (if t169 = t171 then (if t172 = bt174.1 then (dayshiftlaw02_WeekTimes.j0 k a0 t168 t171 (t173 != bt174.2)) else (dayshiftlaw02_WeekTimes.j0 k a0 t168 t171 true)) else (dayshiftlaw02_WeekTimes.j0 k a0 t168 t171 true)) else (dayshiftlaw02_WeekTimes.j0 k a0 t168 t171 true))) = some r := H
  have A5 := Aside0.mk A50
  clear A50
  replace H := Option.bind_eq_some_iff.mp H
  obtain ⟨⟨t174, t175⟩, A60, H⟩ := H
  replace H : (if t168.toList = t170.toList then (if t169 = t171 then (if t172 = t174 then (dayshiftlaw02_WeekTimes.j0 k a0 t168 t171 (t173 != t175)) else (dayshiftlaw02_WeekTimes.j0 k a0 t168 t171 true)) else (dayshiftlaw02_WeekTimes.j0 k a0 t168 t171 true)) else (dayshiftlaw02_WeekTimes.j0 k a0 t168 t171 true)) = some r := H
  have A6 := Aside0.mk A60
  clear A60
  have HC7 := Aside0.mk H
  clear H
  go_enter Try.func7, Try.ntmps7
  go_upto_region 5 with (first | ((with_reducible refine gate_callee (f := 16) rfl ?_); refine goesL_ (some 17) rfl rfl Try.func16 (by kernel_rfl) rfl #[.int .i64 a0] rfl (by (try simp only [List.map_toArray, List.map_cons, List.map_nil]); first | done | rfl | (simp only [List.length_drop, List.length_take]; rfl)) ?_; (with_reducible refine (week_Text.calls a0 t168 t169 _ A3.out).mono ?_); rintro e w8 ⟨rfl, hb⟩; refine ⟨_, rfl, ?_⟩; have n0_ := Aside0.mk (below_step (by repeat (first | (with_reducible first | exact HB.out | apply below_alloc | apply pw_below_drewN | apply below_drew1) | exact HB.out)) hb); clear HB; have HB := n0_; clear n0_; (try clear hb); (try clear hb2); (try clear hk); (try clear hi)) | ((with_reducible refine gate_callee (f := 17) rfl ?_); refine goesL_ (some 22) rfl rfl Try.func17 (by kernel_rfl) rfl #[.int .i64 a0] rfl (by (try simp only [List.map_toArray, List.map_cons, List.map_nil]); first | done | rfl | (simp only [List.length_drop, List.length_take]; rfl)) ?_; (with_reducible refine (dayshiftref02_Text.calls k a0 t170 t171 _ A4.out).mono ?_); rintro e w9 ⟨rfl, hb⟩; refine ⟨_, rfl, ?_⟩; have n0_ := Aside0.mk (below_step (by repeat (first | (with_reducible first | exact HB.out | apply below_alloc | apply pw_below_drewN | apply below_drew1) | exact HB.out)) hb); clear HB; have HB := n0_; clear n0_; (try clear hb); (try clear hb2); (try clear hk); (try clear hi)) | ((with_reducible refine gate_callee (f := 18) rfl ?_); refine goesL_ (some 27) rfl rfl Try.func18 (by kernel_rfl) rfl #[.string a1] rfl (by (try simp only [List.map_toArray, List.map_cons, List.map_nil]); first | done | rfl | (simp only [List.length_drop, List.length_take]; rfl)) ?_; (with_reducible refine (week_Read.calls a1 t172 t173 _ A5.out).mono ?_); rintro e w10 ⟨rfl, hb⟩; refine ⟨_, rfl, ?_⟩; have n0_ := Aside0.mk (below_step (by repeat (first | (with_reducible first | exact HB.out | apply below_alloc | apply pw_below_drewN | apply below_drew1) | exact HB.out)) hb); clear HB; have HB := n0_; clear n0_; (try clear hb); (try clear hb2); (try clear hk); (try clear hi)) | ((with_reducible refine gate_callee (f := 19) rfl ?_); refine goesL_ (some 32) rfl rfl Try.func19 (by kernel_rfl) rfl #[.string a1] rfl (by (try simp only [List.map_toArray, List.map_cons, List.map_nil]); first | done | rfl | (simp only [List.length_drop, List.length_take]; rfl)) ?_; (with_reducible refine (dayshiftref02_Read.calls k a1 t174 t175 _ A6.out).mono ?_); rintro e w' ⟨rfl, ⟨nd, rfl⟩⟩; refine ⟨_, rfl, ?_⟩))
  (try simp only [Act.put, List.setIfInBounds_toArray, List.set_cons_zero, List.set_cons_succ])
  go_cut [52] (fun v52 wc => ∃ (kq : Nat) (x52_6 : Bool), v52 = .bool x52_6 ∧ Aside0 (dayshiftlaw02_WeekTimes.j0 kq a0 t168 t171 x52_6 = some r) ∧ Aside0 (kq ≤ k) ∧ Aside0 (Below w.heap.size w wc))
  case first =>
    have H := HC7.out
    clear HC7
    by_cases c11 : t168.toList = t170.toList
    · rw [if_pos c11] at H
      have c11b0 : (t168.toList == t170.toList) = true := beq_iff_eq.mpr c11
      have c11b1 : (t168.toList != t170.toList) = false := bne_eq_false_iff_eq.mpr c11
      clear c11
      (first | rw [c11b0] | (simp only [i64_w, i32_w]; rw [c11b0]) | skip)
      by_cases c12 : t169 = t171
      · rw [if_pos c12] at H
        have c12b0 : (t169 == t171) = true := beq_iff_eq.mpr c12
        have c12b1 : (t169 != t171) = false := bne_eq_false_iff_eq.mpr c12
        clear c12
        by_cases c13 : t172 = t174
        · rw [if_pos c13] at H
          have c13b0 : (t172 == t174) = true := beq_iff_eq.mpr c13
          have c13b1 : (t172 != t174) = false := bne_eq_false_iff_eq.mpr c13
          clear c13
          have H' := Aside0.mk H
          clear H
          go_wp2
          go_meet
          case rel => exact ⟨_, ((t173 != t175)), (by first | rfl | (simp; done) | (simp [*]; done)), H', ⟨by first | omega | exact Nat.le_refl _⟩, ⟨by repeat (first | (with_reducible first | exact HB.out | apply below_alloc | apply pw_below_drewN | apply below_drew1) | exact HB.out)⟩⟩
        · rw [if_neg c13] at H
          have c13b0 : (t172 == t174) = false := beq_eq_false_iff_ne.mpr c13
          have c13b1 : (t172 != t174) = true := bne_iff_ne.mpr c13
          have H' := Aside0.mk H
          clear H
          go_wp2
          go_meet
          case rel => exact ⟨_, (true), (by first | rfl | (simp; done) | (simp [*]; done)), H', ⟨by first | omega | exact Nat.le_refl _⟩, ⟨by repeat (first | (with_reducible first | exact HB.out | apply below_alloc | apply pw_below_drewN | apply below_drew1) | exact HB.out)⟩⟩
      · rw [if_neg c12] at H
        have c12b0 : (t169 == t171) = false := beq_eq_false_iff_ne.mpr c12
        have c12b1 : (t169 != t171) = true := bne_iff_ne.mpr c12
        have H' := Aside0.mk H
        clear H
        go_wp2
        go_meet
        case rel => exact ⟨_, (true), (by first | rfl | (simp; done) | (simp [*]; done)), H', ⟨by first | omega | exact Nat.le_refl _⟩, ⟨by repeat (first | (with_reducible first | exact HB.out | apply below_alloc | apply pw_below_drewN | apply below_drew1) | exact HB.out)⟩⟩
    · rw [if_neg c11] at H
      have c11b0 : (t168.toList == t170.toList) = false := beq_eq_false_iff_ne.mpr c11
      have c11b1 : (t168.toList != t170.toList) = true := bne_iff_ne.mpr c11
      (first | rw [c11b0] | (simp only [i64_w, i32_w]; rw [c11b0]) | skip)
      have H' := Aside0.mk H
      clear H
      go_wp2
      go_meet
      case rel => exact ⟨_, (true), (by first | rfl | (simp; done) | (simp [*]; done)), H', ⟨by first | omega | exact Nat.le_refl _⟩, ⟨by repeat (first | (with_reducible first | exact HB.out | apply below_alloc | apply pw_below_drewN | apply below_drew1) | exact HB.out)⟩⟩
  case rest =>
    clear HC7
    try clear c1
    try clear p2
    try clear c7
    try clear c11
    try clear c11b0
    try clear c11b1
    try clear c12
    try clear c12b0
    try clear c12b1
    try clear c13
    try clear c13b0
    try clear c13b1
    obtain ⟨kq, x52_6, rfl, HA, HJ6, HB⟩ := hcut
    cases kq with
    | zero => exact absurd HA.out (by simp [dayshiftlaw02_WeekTimes.j0])
    | succ kj6 =>
      have H := HA.out
      clear HA
      simp only [dayshiftlaw02_WeekTimes.j0] at H
      by_cases c14 : x52_6 = true
      · subst c14
        have H1 : (some false) = some r := by rw [if_pos rfl] at H; exact H
        clear H
        have H := H1
        clear H1
        obtain rfl := Option.some.inj H
        go_wp2
        go_ret
        exact ⟨by first | rfl | (simp [errW_none, errW_some] <;> rfl) | (simp [*, errW_none, errW_some] <;> rfl), by repeat (first | (with_reducible first | exact HB.out | apply below_alloc | apply pw_below_drewN | apply below_drew1) | exact HB.out)⟩
      · replace c14 := Bool.eq_false_iff.mpr c14
        subst c14
        have H1 : (if t171 = 0 then ((week_Read.f t168).bind fun bt176 => (if bt176.1 = a0 then (if bt176.2 = 0 then ((dayshiftlaw02_known.f kj6).bind fun t178 => (some t178)) else (some false)) else (some false))) else ((dayshiftlaw02_known.f kj6).bind fun t179 => (some t179))) = some r := by rw [if_neg (show ¬ (false = true) by decide)] at H; exact H
        clear H
        have H := H1
        clear H1
        by_cases c15 : t171 = 0
        · rw [if_pos c15] at H
          have c15b0 : (t171 == 0) = true := beq_iff_eq.mpr c15
          have c15b1 : (t171 != 0) = false := bne_eq_false_iff_eq.mpr c15
          clear c15
          replace H := Option.bind_eq_some_iff.mp H
          obtain ⟨⟨t176, t177⟩, A160, H⟩ := H
          replace H : (if t176 = a0 then (if t177 = 0 then ((dayshiftlaw02_known.f kj6).bind fun t178 => (some t178)) else (some false)) else (some false)) = some r := H
          have A16 := Aside0.mk A160
          clear A160
          by_cases c17 : t176 = a0
          · rw [if_pos c17] at H
            have c17b0 : (t176 == a0) = true := beq_iff_eq.mpr c17
            have c17b1 : (t176 != a0) = false := bne_eq_false_iff_eq.mpr c17
            clear c17
            by_cases c18 : t177 = 0
            · rw [if_pos c18] at H
              have c18b0 : (t177 == 0) = true := beq_iff_eq.mpr c18
              have c18b1 : (t177 != 0) = false := bne_eq_false_iff_eq.mpr c18
              clear c18
              replace H := Option.bind_eq_some_iff.mp H
              obtain ⟨t178, A190, H⟩ := H
              replace H : (some t178) = some r := H
              have A19 := Aside0.mk A190
              clear A190
              obtain rfl := Option.some.inj H
              go_wp2_with (first | ((with_reducible refine gate_callee (f := 18) rfl ?_); refine goesL_ (some 58) rfl rfl Try.func18 (by kernel_rfl) rfl #[.string t168] rfl (by (try simp only [List.map_toArray, List.map_cons, List.map_nil]); first | done | rfl | (simp only [List.length_drop, List.length_take]; rfl)) ?_; (with_reducible refine (week_Read.calls t168 t176 t177 _ A16.out).mono ?_); rintro e w20 ⟨rfl, hb⟩; refine ⟨_, rfl, ?_⟩; have n0_ := Aside0.mk (below_step (by repeat (first | (with_reducible first | exact HB.out | apply below_alloc | apply pw_below_drewN | apply below_drew1) | exact HB.out)) hb); clear HB; have HB := n0_; clear n0_; (try clear hb); (try clear hb2); (try clear hk); (try clear hi)) | (go_at_call 12; (with_reducible refine (dayshiftlaw02_known.calls kj6  t178 _ A19.out).mono ?_); rintro e w21 ⟨rfl, hb⟩; have n0_ := Aside0.mk (below_step (by repeat (first | (with_reducible first | exact HB.out | apply below_alloc | apply pw_below_drewN | apply below_drew1) | exact HB.out)) hb); clear HB; have HB := n0_; clear n0_; (try clear hb); (try clear hb2); (try clear hk); (try clear hi)))
              go_ret
              exact ⟨by first | rfl | (simp [errW_none, errW_some] <;> rfl) | (simp [*, errW_none, errW_some] <;> rfl), by repeat (first | (with_reducible first | exact HB.out | apply below_alloc | apply pw_below_drewN | apply below_drew1) | exact HB.out)⟩
            · rw [if_neg c18] at H
              have c18b0 : (t177 == 0) = false := beq_eq_false_iff_ne.mpr c18
              have c18b1 : (t177 != 0) = true := bne_iff_ne.mpr c18
              obtain rfl := Option.some.inj H
              go_wp2_with (first | ((with_reducible refine gate_callee (f := 18) rfl ?_); refine goesL_ (some 58) rfl rfl Try.func18 (by kernel_rfl) rfl #[.string t168] rfl (by (try simp only [List.map_toArray, List.map_cons, List.map_nil]); first | done | rfl | (simp only [List.length_drop, List.length_take]; rfl)) ?_; (with_reducible refine (week_Read.calls t168 t176 t177 _ A16.out).mono ?_); rintro e w22 ⟨rfl, hb⟩; refine ⟨_, rfl, ?_⟩; have n0_ := Aside0.mk (below_step (by repeat (first | (with_reducible first | exact HB.out | apply below_alloc | apply pw_below_drewN | apply below_drew1) | exact HB.out)) hb); clear HB; have HB := n0_; clear n0_; (try clear hb); (try clear hb2); (try clear hk); (try clear hi)))
              go_ret
              exact ⟨by first | rfl | (simp [errW_none, errW_some] <;> rfl) | (simp [*, errW_none, errW_some] <;> rfl), by repeat (first | (with_reducible first | exact HB.out | apply below_alloc | apply pw_below_drewN | apply below_drew1) | exact HB.out)⟩
          · rw [if_neg c17] at H
            have c17b0 : (t176 == a0) = false := beq_eq_false_iff_ne.mpr c17
            have c17b1 : (t176 != a0) = true := bne_iff_ne.mpr c17
            obtain rfl := Option.some.inj H
            go_wp2_with (first | ((with_reducible refine gate_callee (f := 18) rfl ?_); refine goesL_ (some 58) rfl rfl Try.func18 (by kernel_rfl) rfl #[.string t168] rfl (by (try simp only [List.map_toArray, List.map_cons, List.map_nil]); first | done | rfl | (simp only [List.length_drop, List.length_take]; rfl)) ?_; (with_reducible refine (week_Read.calls t168 t176 t177 _ A16.out).mono ?_); rintro e w23 ⟨rfl, hb⟩; refine ⟨_, rfl, ?_⟩; have n0_ := Aside0.mk (below_step (by repeat (first | (with_reducible first | exact HB.out | apply below_alloc | apply pw_below_drewN | apply below_drew1) | exact HB.out)) hb); clear HB; have HB := n0_; clear n0_; (try clear hb); (try clear hb2); (try clear hk); (try clear hi)))
            go_ret
            exact ⟨by first | rfl | (simp [errW_none, errW_some] <;> rfl) | (simp [*, errW_none, errW_some] <;> rfl), by repeat (first | (with_reducible first | exact HB.out | apply below_alloc | apply pw_below_drewN | apply below_drew1) | exact HB.out)⟩
        · rw [if_neg c15] at H
          have c15b0 : (t171 == 0) = false := beq_eq_false_iff_ne.mpr c15
          have c15b1 : (t171 != 0) = true := bne_iff_ne.mpr c15
          replace H := Option.bind_eq_some_iff.mp H
          obtain ⟨t179, A240, H⟩ := H
          replace H : (some t179) = some r := H
          have A24 := Aside0.mk A240
          clear A240
          obtain rfl := Option.some.inj H
          go_wp2_with (first | ((with_reducible refine gate_callee (f := 12) rfl ?_); refine goesL_ (some 55) rfl rfl Try.func12 (by kernel_rfl) rfl #[] rfl (by (try simp only [List.map_toArray, List.map_cons, List.map_nil]); first | done | rfl | (simp only [List.length_drop, List.length_take]; rfl)) ?_; (with_reducible refine (dayshiftlaw02_known.calls kj6  t179 _ A24.out).mono ?_); rintro e w25 ⟨rfl, hb⟩; refine ⟨_, rfl, ?_⟩; have n0_ := Aside0.mk (below_step (by repeat (first | (with_reducible first | exact HB.out | apply below_alloc | apply pw_below_drewN | apply below_drew1) | exact HB.out)) hb); clear HB; have HB := n0_; clear n0_; (try clear hb); (try clear hb2); (try clear hk); (try clear hi)))
          go_ret
          exact ⟨by first | rfl | (simp [errW_none, errW_some] <;> rfl) | (simp [*, errW_none, errW_some] <;> rfl), by repeat (first | (with_reducible first | exact HB.out | apply below_alloc | apply pw_below_drewN | apply below_drew1) | exact HB.out)⟩

/-- THE ONE PURE STATEMENT of dayshiftlaw02_WeekTimes: yours. -/
def dayshiftlaw02_WeekTimes.Pure : Prop := ∀ (a0 : Int) (a1 : ByteArray), (Lit.int .i64 a0).wf = true → a1.size ≤ 140737488351232 → ∃ k, dayshiftlaw02_WeekTimes.f k a0 a1 = some true
theorem dayshiftlaw02_WeekTimes.walk (P : dayshiftlaw02_WeekTimes.Pure) (a0 : Int) (a1 : ByteArray) (w : World) (w0 : (Lit.int .i64 a0).wf = true) (w1 : a1.size ≤ 140737488351232) :
    Calls Try.prog 7 #[.int .i64 a0, .string a1] w fun e w' => e = .returned (.bool true) ∧ Below w.heap.size w w' := by
  obtain ⟨k, h⟩ := P a0 a1 w0 w1
  refine (dayshiftlaw02_WeekTimes.calls k a0 a1 true w h).mono ?_
  rintro e w' ⟨rfl, hd⟩
  exact ⟨rfl, hd⟩

end Go.Proofs.Ytjfghphblgkoiaa.PWeekTimes
