/- This text holds, for Go functions of the given program, Lean functions with the same answers, and proofs that the machine's calls come to these answers; each theorem names its own conditions. It was laid by a program of this session. -/
import Derived.Test.YtndjcicjlmmjmaaDoorPMaskBothx0
import Derived.Test.YtndjcicjlmmjmaaDoorPMaskBothx1
namespace Go.Proofs.YtndjcicjlmmjmaaDoor.PMaskBoth
open Go.RowKit Go.Proofs.YtndjcicjlmmjmaaDoorW.PrintWords Go.Proofs.YtndjcicjlmmjmaaDoorW.PrintLast Go.Proofs.YtndjcicjlmmjmaaDoorW.PrintMore
attribute [local go_sem] max2_int min2_int max_two min_two max_three min_three max_four min_four   -- for this text's walks alone
set_option linter.unusedVariables false
set_option linter.unusedSimpArgs false

/-! ### dayshiftlaw05_known: function 23 -/
def dayshiftlaw05_known.f (k : Nat)  : Option (Bool) := (mask_Week.f k 31 3 29).bind fun t126 => ((mask_Month_Count.f t126).bind fun t127 => (if t127 = 21 then ((mask_Month_Nth.f k t126 (-1)).bind fun t128 => (if t128 = 29 then ((mask_Month_Nth.f k t126 3).bind fun t129 => (if t129 = 5 then ((mask_Month_Next.f t126 2).bind fun t130 => (if t130 = 5 then ((mask_Month_Prev.f t126 5).bind fun t131 => (if t131 = 2 then ((mask_Month_Has.f t126 3).bind fun t132 => (some (!t132))) else (some false))) else (some false))) else (some false))) else (some false))) else (some false)))
theorem dayshiftlaw05_known.mono : ∀ k, LeO (dayshiftlaw05_known.f k ) (dayshiftlaw05_known.f (k + 1) ) := by
  intro  k
  unfold dayshiftlaw05_known.f
  repeat' first
      | (with_reducible exact mask_Month_Nth.mono _ _ _)
      | (with_reducible exact mask_Week.mono _ _ _ _)
      | (with_reducible exact LeO.refl _)
      | (with_reducible exact LeO.none _)
      | (with_reducible refine LeO.ite ?_ ?_)
      | (with_reducible refine LeO.bind ?_ (fun _ => ?_))
      | exact mask_Month_Nth.mono _ _ _
      | exact mask_Week.mono _ _ _ _
      | exact LeO.none _
      | refine LeO.ite ?_ ?_
      | refine LeO.bind ?_ (fun _ => ?_)
set_option maxHeartbeats 8000000 in
set_option maxRecDepth 100000 in
theorem dayshiftlaw05_known.calls (k : Nat)  (r : Bool) (w : World) (hg : GOK w) (h : dayshiftlaw05_known.f k  = some r) :
    Calls Tryd.prog 23 #[] w fun e w' => e = .returned (.bool r) ∧ Below w.heap.size w w' := by
  have HB := Aside0.mk (Below.refl w.heap.size w)
  have HG := Aside0.mk hg
  clear hg
  have H : ((mask_Week.f k 31 3 29).bind fun t126 => ((mask_Month_Count.f t126).bind fun t127 => (if t127 = 21 then ((mask_Month_Nth.f k t126 (-1)).bind fun t128 => (if t128 = 29 then ((mask_Month_Nth.f k t126 3).bind fun t129 => (if t129 = 5 then ((mask_Month_Next.f t126 2).bind fun t130 => (if t130 = 5 then ((mask_Month_Prev.f t126 5).bind fun t131 => (if t131 = 2 then ((mask_Month_Has.f t126 3).bind fun t132 => (some (!t132))) else (some false))) else (some false))) else (some false))) else (some false))) else (some false)))) = some r := h
  clear h
  replace H := Option.bind_eq_some_iff.mp H
  obtain ⟨t126, A10, H⟩ := H
  replace H : ((mask_Month_Count.f t126).bind fun t127 => (if t127 = 21 then ((mask_Month_Nth.f k t126 (-1)).bind fun t128 => (if t128 = 29 then ((mask_Month_Nth.f k t126 3).bind fun t129 => (if t129 = 5 then ((mask_Month_Next.f t126 2).bind fun t130 => (if t130 = 5 then ((mask_Month_Prev.f t126 5).bind fun t131 => (if t131 = 2 then ((mask_Month_Has.f t126 3).bind fun t132 => (some (!t132))) else (some false))) else (some false))) else (some false))) else (some false))) else (some false))) = some r := H
  have A1 := Aside0.mk A10
  clear A10
  replace H := Option.bind_eq_some_iff.mp H
  obtain ⟨t127, A20, H⟩ := H
  replace H : (if t127 = 21 then ((mask_Month_Nth.f k t126 (-1)).bind fun t128 => (if t128 = 29 then ((mask_Month_Nth.f k t126 3).bind fun t129 => (if t129 = 5 then ((mask_Month_Next.f t126 2).bind fun t130 => (if t130 = 5 then ((mask_Month_Prev.f t126 5).bind fun t131 => (if t131 = 2 then ((mask_Month_Has.f t126 3).bind fun t132 => (some (!t132))) else (some false))) else (some false))) else (some false))) else (some false))) else (some false)) = some r := H
  have A2 := Aside0.mk A20
  clear A20
  by_cases c3 : t127 = 21
  · rw [if_pos c3] at H
    have c3b0 : (t127 == 21) = true := beq_iff_eq.mpr c3
    have c3b1 : (t127 != 21) = false := bne_eq_false_iff_eq.mpr c3
    clear c3
    replace H := Option.bind_eq_some_iff.mp H
    obtain ⟨t128, A40, H⟩ := H
    replace H : (if t128 = 29 then ((mask_Month_Nth.f k t126 3).bind fun t129 => (if t129 = 5 then ((mask_Month_Next.f t126 2).bind fun t130 => (if t130 = 5 then ((mask_Month_Prev.f t126 5).bind fun t131 => (if t131 = 2 then ((mask_Month_Has.f t126 3).bind fun t132 => (some (!t132))) else (some false))) else (some false))) else (some false))) else (some false)) = some r := H
    have A4 := Aside0.mk A40
    clear A40
    by_cases c5 : t128 = 29
    · rw [if_pos c5] at H
      have c5b0 : (t128 == 29) = true := beq_iff_eq.mpr c5
      have c5b1 : (t128 != 29) = false := bne_eq_false_iff_eq.mpr c5
      clear c5
      replace H := Option.bind_eq_some_iff.mp H
      obtain ⟨t129, A60, H⟩ := H
      replace H : (if t129 = 5 then ((mask_Month_Next.f t126 2).bind fun t130 => (if t130 = 5 then ((mask_Month_Prev.f t126 5).bind fun t131 => (if t131 = 2 then ((mask_Month_Has.f t126 3).bind fun t132 => (some (!t132))) else (some false))) else (some false))) else (some false)) = some r := H
      have A6 := Aside0.mk A60
      clear A60
      by_cases c7 : t129 = 5
      · rw [if_pos c7] at H
        have c7b0 : (t129 == 5) = true := beq_iff_eq.mpr c7
        have c7b1 : (t129 != 5) = false := bne_eq_false_iff_eq.mpr c7
        clear c7
        replace H := Option.bind_eq_some_iff.mp H
        obtain ⟨t130, A80, H⟩ := H
        replace H : (if t130 = 5 then ((mask_Month_Prev.f t126 5).bind fun t131 => (if t131 = 2 then ((mask_Month_Has.f t126 3).bind fun t132 => (some (!t132))) else (some false))) else (some false)) = some r := H
        have A8 := Aside0.mk A80
        clear A80
        by_cases c9 : t130 = 5
        · rw [if_pos c9] at H
          have c9b0 : (t130 == 5) = true := beq_iff_eq.mpr c9
          have c9b1 : (t130 != 5) = false := bne_eq_false_iff_eq.mpr c9
          clear c9
          replace H := Option.bind_eq_some_iff.mp H
          obtain ⟨t131, A100, H⟩ := H
          replace H : (if t131 = 2 then ((mask_Month_Has.f t126 3).bind fun t132 => (some (!t132))) else (some false)) = some r := H
          have A10 := Aside0.mk A100
          clear A100
          by_cases c11 : t131 = 2
          · rw [if_pos c11] at H
            have c11b0 : (t131 == 2) = true := beq_iff_eq.mpr c11
            have c11b1 : (t131 != 2) = false := bne_eq_false_iff_eq.mpr c11
            clear c11
            replace H := Option.bind_eq_some_iff.mp H
            obtain ⟨t132, A120, H⟩ := H
            replace H : (some (!t132)) = some r := H
            have A12 := Aside0.mk A120
            clear A120
            obtain rfl := Option.some.inj H
            go_enter Tryd.func23, Tryd.ntmps23
            go_wp2_with (first | ((with_reducible refine gate_callee (f := 24) rfl ?_); refine goesL_ (some 2) rfl rfl Tryd.func24 (by kernel_rfl) rfl #[.int .u8 31, .int .i64 3, .int .i64 29] rfl (by (try simp only [List.map_toArray, List.map_cons, List.map_nil]); first | done | rfl | (simp only [List.length_drop, List.length_take]; rfl)) ?_; (with_reducible refine (mask_Week.calls k 31 3 29 t126 _ A1.out).mono ?_); rintro e w13 ⟨rfl, hb⟩; refine ⟨_, rfl, ?_⟩; have n0_ := Aside0.mk (below_step (by repeat (first | (with_reducible first | exact HB.out | apply below_alloc | apply pw_below_drewN | apply below_drew1) | exact HB.out)) hb); clear HB; have HB := n0_; clear n0_; (try clear hb); (try clear hb2); (try clear hk); (try clear hi)) | ((with_reducible refine gate_callee (f := 12) rfl ?_); refine goesL_ (some 4) rfl rfl Tryd.func12 (by kernel_rfl) rfl #[.int .u32 t126] rfl (by (try simp only [List.map_toArray, List.map_cons, List.map_nil]); first | done | rfl | (simp only [List.length_drop, List.length_take]; rfl)) ?_; (with_reducible refine (mask_Month_Count.calls t126 t127 _ A2.out).mono ?_); rintro e w14 ⟨rfl, hb⟩; refine ⟨_, rfl, ?_⟩; have n0_ := Aside0.mk (below_step (by repeat (first | (with_reducible first | exact HB.out | apply below_alloc | apply pw_below_drewN | apply below_drew1) | exact HB.out)) hb); clear HB; have HB := n0_; clear n0_; (try clear hb); (try clear hb2); (try clear hk); (try clear hi)) | (go_at_call 14; (with_reducible refine (mask_Month_Nth.calls k t126 (-1) t128 _ ?side1 A4.out).mono ?_); (case side1 => exact GOK.below HG.out (by repeat (first | (with_reducible first | exact HB.out | apply below_alloc | apply pw_below_drewN | apply below_drew1) | exact HB.out))); rintro e w15 ⟨rfl, hb⟩; have n0_ := Aside0.mk (below_step (by repeat (first | (with_reducible first | exact HB.out | apply below_alloc | apply pw_below_drewN | apply below_drew1) | exact HB.out)) hb); clear HB; have HB := n0_; clear n0_; (try clear hb); (try clear hb2); (try clear hk); (try clear hi)) | (go_at_call 14; (with_reducible refine (mask_Month_Nth.calls k t126 3 t129 _ ?side1 A6.out).mono ?_); (case side1 => exact GOK.below HG.out (by repeat (first | (with_reducible first | exact HB.out | apply below_alloc | apply pw_below_drewN | apply below_drew1) | exact HB.out))); rintro e w16 ⟨rfl, hb⟩; have n0_ := Aside0.mk (below_step (by repeat (first | (with_reducible first | exact HB.out | apply below_alloc | apply pw_below_drewN | apply below_drew1) | exact HB.out)) hb); clear HB; have HB := n0_; clear n0_; (try clear hb); (try clear hb2); (try clear hk); (try clear hi)) | (go_at_call 16; (with_reducible refine (mask_Month_Next.calls t126 2 t130 _ ?side1 A8.out).mono ?_); (case side1 => exact GOK.below HG.out (by repeat (first | (with_reducible first | exact HB.out | apply below_alloc | apply pw_below_drewN | apply below_drew1) | exact HB.out))); rintro e w17 ⟨rfl, hb⟩; have n0_ := Aside0.mk (below_step (by repeat (first | (with_reducible first | exact HB.out | apply below_alloc | apply pw_below_drewN | apply below_drew1) | exact HB.out)) hb); clear HB; have HB := n0_; clear n0_; (try clear hb); (try clear hb2); (try clear hk); (try clear hi)) | (go_at_call 18; (with_reducible refine (mask_Month_Prev.calls t126 5 t131 _ A10.out).mono ?_); rintro e w18 ⟨rfl, hb⟩; have n0_ := Aside0.mk (below_step (by repeat (first | (with_reducible first | exact HB.out | apply below_alloc | apply pw_below_drewN | apply below_drew1) | exact HB.out)) hb); clear HB; have HB := n0_; clear n0_; (try clear hb); (try clear hb2); (try clear hk); (try clear hi)) | (go_at_call 10; (with_reducible refine (mask_Month_Has.calls t126 3 t132 _ A12.out).mono ?_); rintro e w' ⟨rfl, ⟨nd, rfl⟩⟩))
            go_ret
            exact ⟨by first | rfl | (simp [errW_none, errW_some] <;> rfl) | (simp [*, errW_none, errW_some] <;> rfl), by repeat (first | (with_reducible first | exact HB.out | apply below_alloc | apply pw_below_drewN | apply below_drew1) | exact HB.out)⟩
          · rw [if_neg c11] at H
            have c11b0 : (t131 == 2) = false := beq_eq_false_iff_ne.mpr c11
            have c11b1 : (t131 != 2) = true := bne_iff_ne.mpr c11
            obtain rfl := Option.some.inj H
            go_enter Tryd.func23, Tryd.ntmps23
            go_wp2_with (first | ((with_reducible refine gate_callee (f := 24) rfl ?_); refine goesL_ (some 2) rfl rfl Tryd.func24 (by kernel_rfl) rfl #[.int .u8 31, .int .i64 3, .int .i64 29] rfl (by (try simp only [List.map_toArray, List.map_cons, List.map_nil]); first | done | rfl | (simp only [List.length_drop, List.length_take]; rfl)) ?_; (with_reducible refine (mask_Week.calls k 31 3 29 t126 _ A1.out).mono ?_); rintro e w19 ⟨rfl, hb⟩; refine ⟨_, rfl, ?_⟩; have n0_ := Aside0.mk (below_step (by repeat (first | (with_reducible first | exact HB.out | apply below_alloc | apply pw_below_drewN | apply below_drew1) | exact HB.out)) hb); clear HB; have HB := n0_; clear n0_; (try clear hb); (try clear hb2); (try clear hk); (try clear hi)) | ((with_reducible refine gate_callee (f := 12) rfl ?_); refine goesL_ (some 4) rfl rfl Tryd.func12 (by kernel_rfl) rfl #[.int .u32 t126] rfl (by (try simp only [List.map_toArray, List.map_cons, List.map_nil]); first | done | rfl | (simp only [List.length_drop, List.length_take]; rfl)) ?_; (with_reducible refine (mask_Month_Count.calls t126 t127 _ A2.out).mono ?_); rintro e w20 ⟨rfl, hb⟩; refine ⟨_, rfl, ?_⟩; have n0_ := Aside0.mk (below_step (by repeat (first | (with_reducible first | exact HB.out | apply below_alloc | apply pw_below_drewN | apply below_drew1) | exact HB.out)) hb); clear HB; have HB := n0_; clear n0_; (try clear hb); (try clear hb2); (try clear hk); (try clear hi)) | (go_at_call 14; (with_reducible refine (mask_Month_Nth.calls k t126 (-1) t128 _ ?side1 A4.out).mono ?_); (case side1 => exact GOK.below HG.out (by repeat (first | (with_reducible first | exact HB.out | apply below_alloc | apply pw_below_drewN | apply below_drew1) | exact HB.out))); rintro e w21 ⟨rfl, hb⟩; have n0_ := Aside0.mk (below_step (by repeat (first | (with_reducible first | exact HB.out | apply below_alloc | apply pw_below_drewN | apply below_drew1) | exact HB.out)) hb); clear HB; have HB := n0_; clear n0_; (try clear hb); (try clear hb2); (try clear hk); (try clear hi)) | (go_at_call 14; (with_reducible refine (mask_Month_Nth.calls k t126 3 t129 _ ?side1 A6.out).mono ?_); (case side1 => exact GOK.below HG.out (by repeat (first | (with_reducible first | exact HB.out | apply below_alloc | apply pw_below_drewN | apply below_drew1) | exact HB.out))); rintro e w22 ⟨rfl, hb⟩; have n0_ := Aside0.mk (below_step (by repeat (first | (with_reducible first | exact HB.out | apply below_alloc | apply pw_below_drewN | apply below_drew1) | exact HB.out)) hb); clear HB; have HB := n0_; clear n0_; (try clear hb); (try clear hb2); (try clear hk); (try clear hi)) | (go_at_call 16; (with_reducible refine (mask_Month_Next.calls t126 2 t130 _ ?side1 A8.out).mono ?_); (case side1 => exact GOK.below HG.out (by repeat (first | (with_reducible first | exact HB.out | apply below_alloc | apply pw_below_drewN | apply below_drew1) | exact HB.out))); rintro e w23 ⟨rfl, hb⟩; have n0_ := Aside0.mk (below_step (by repeat (first | (with_reducible first | exact HB.out | apply below_alloc | apply pw_below_drewN | apply below_drew1) | exact HB.out)) hb); clear HB; have HB := n0_; clear n0_; (try clear hb); (try clear hb2); (try clear hk); (try clear hi)) | (go_at_call 18; (with_reducible refine (mask_Month_Prev.calls t126 5 t131 _ A10.out).mono ?_); rintro e w24 ⟨rfl, hb⟩; have n0_ := Aside0.mk (below_step (by repeat (first | (with_reducible first | exact HB.out | apply below_alloc | apply pw_below_drewN | apply below_drew1) | exact HB.out)) hb); clear HB; have HB := n0_; clear n0_; (try clear hb); (try clear hb2); (try clear hk); (try clear hi)))
            go_ret
            exact ⟨by first | rfl | (simp [errW_none, errW_some] <;> rfl) | (simp [*, errW_none, errW_some] <;> rfl), by repeat (first | (with_reducible first | exact HB.out | apply below_alloc | apply pw_below_drewN | apply below_drew1) | exact HB.out)⟩
        · rw [if_neg c9] at H
          have c9b0 : (t130 == 5) = false := beq_eq_false_iff_ne.mpr c9
          have c9b1 : (t130 != 5) = true := bne_iff_ne.mpr c9
          obtain rfl := Option.some.inj H
          go_enter Tryd.func23, Tryd.ntmps23
          go_wp2_with (first | ((with_reducible refine gate_callee (f := 24) rfl ?_); refine goesL_ (some 2) rfl rfl Tryd.func24 (by kernel_rfl) rfl #[.int .u8 31, .int .i64 3, .int .i64 29] rfl (by (try simp only [List.map_toArray, List.map_cons, List.map_nil]); first | done | rfl | (simp only [List.length_drop, List.length_take]; rfl)) ?_; (with_reducible refine (mask_Week.calls k 31 3 29 t126 _ A1.out).mono ?_); rintro e w25 ⟨rfl, hb⟩; refine ⟨_, rfl, ?_⟩; have n0_ := Aside0.mk (below_step (by repeat (first | (with_reducible first | exact HB.out | apply below_alloc | apply pw_below_drewN | apply below_drew1) | exact HB.out)) hb); clear HB; have HB := n0_; clear n0_; (try clear hb); (try clear hb2); (try clear hk); (try clear hi)) | ((with_reducible refine gate_callee (f := 12) rfl ?_); refine goesL_ (some 4) rfl rfl Tryd.func12 (by kernel_rfl) rfl #[.int .u32 t126] rfl (by (try simp only [List.map_toArray, List.map_cons, List.map_nil]); first | done | rfl | (simp only [List.length_drop, List.length_take]; rfl)) ?_; (with_reducible refine (mask_Month_Count.calls t126 t127 _ A2.out).mono ?_); rintro e w26 ⟨rfl, hb⟩; refine ⟨_, rfl, ?_⟩; have n0_ := Aside0.mk (below_step (by repeat (first | (with_reducible first | exact HB.out | apply below_alloc | apply pw_below_drewN | apply below_drew1) | exact HB.out)) hb); clear HB; have HB := n0_; clear n0_; (try clear hb); (try clear hb2); (try clear hk); (try clear hi)) | (go_at_call 14; (with_reducible refine (mask_Month_Nth.calls k t126 (-1) t128 _ ?side1 A4.out).mono ?_); (case side1 => exact GOK.below HG.out (by repeat (first | (with_reducible first | exact HB.out | apply below_alloc | apply pw_below_drewN | apply below_drew1) | exact HB.out))); rintro e w27 ⟨rfl, hb⟩; have n0_ := Aside0.mk (below_step (by repeat (first | (with_reducible first | exact HB.out | apply below_alloc | apply pw_below_drewN | apply below_drew1) | exact HB.out)) hb); clear HB; have HB := n0_; clear n0_; (try clear hb); (try clear hb2); (try clear hk); (try clear hi)) | (go_at_call 14; (with_reducible refine (mask_Month_Nth.calls k t126 3 t129 _ ?side1 A6.out).mono ?_); (case side1 => exact GOK.below HG.out (by repeat (first | (with_reducible first | exact HB.out | apply below_alloc | apply pw_below_drewN | apply below_drew1) | exact HB.out))); rintro e w28 ⟨rfl, hb⟩; have n0_ := Aside0.mk (below_step (by repeat (first | (with_reducible first | exact HB.out | apply below_alloc | apply pw_below_drewN | apply below_drew1) | exact HB.out)) hb); clear HB; have HB := n0_; clear n0_; (try clear hb); (try clear hb2); (try clear hk); (try clear hi)) | (go_at_call 16; (with_reducible refine (mask_Month_Next.calls t126 2 t130 _ ?side1 A8.out).mono ?_); (case side1 => exact GOK.below HG.out (by repeat (first | (with_reducible first | exact HB.out | apply below_alloc | apply pw_below_drewN | apply below_drew1) | exact HB.out))); rintro e w29 ⟨rfl, hb⟩; have n0_ := Aside0.mk (below_step (by repeat (first | (with_reducible first | exact HB.out | apply below_alloc | apply pw_below_drewN | apply below_drew1) | exact HB.out)) hb); clear HB; have HB := n0_; clear n0_; (try clear hb); (try clear hb2); (try clear hk); (try clear hi)))
          go_ret
          exact ⟨by first | rfl | (simp [errW_none, errW_some] <;> rfl) | (simp [*, errW_none, errW_some] <;> rfl), by repeat (first | (with_reducible first | exact HB.out | apply below_alloc | apply pw_below_drewN | apply below_drew1) | exact HB.out)⟩
      · rw [if_neg c7] at H
        have c7b0 : (t129 == 5) = false := beq_eq_false_iff_ne.mpr c7
        have c7b1 : (t129 != 5) = true := bne_iff_ne.mpr c7
        obtain rfl := Option.some.inj H
        go_enter Tryd.func23, Tryd.ntmps23
        go_wp2_with (first | ((with_reducible refine gate_callee (f := 24) rfl ?_); refine goesL_ (some 2) rfl rfl Tryd.func24 (by kernel_rfl) rfl #[.int .u8 31, .int .i64 3, .int .i64 29] rfl (by (try simp only [List.map_toArray, List.map_cons, List.map_nil]); first | done | rfl | (simp only [List.length_drop, List.length_take]; rfl)) ?_; (with_reducible refine (mask_Week.calls k 31 3 29 t126 _ A1.out).mono ?_); rintro e w30 ⟨rfl, hb⟩; refine ⟨_, rfl, ?_⟩; have n0_ := Aside0.mk (below_step (by repeat (first | (with_reducible first | exact HB.out | apply below_alloc | apply pw_below_drewN | apply below_drew1) | exact HB.out)) hb); clear HB; have HB := n0_; clear n0_; (try clear hb); (try clear hb2); (try clear hk); (try clear hi)) | ((with_reducible refine gate_callee (f := 12) rfl ?_); refine goesL_ (some 4) rfl rfl Tryd.func12 (by kernel_rfl) rfl #[.int .u32 t126] rfl (by (try simp only [List.map_toArray, List.map_cons, List.map_nil]); first | done | rfl | (simp only [List.length_drop, List.length_take]; rfl)) ?_; (with_reducible refine (mask_Month_Count.calls t126 t127 _ A2.out).mono ?_); rintro e w31 ⟨rfl, hb⟩; refine ⟨_, rfl, ?_⟩; have n0_ := Aside0.mk (below_step (by repeat (first | (with_reducible first | exact HB.out | apply below_alloc | apply pw_below_drewN | apply below_drew1) | exact HB.out)) hb); clear HB; have HB := n0_; clear n0_; (try clear hb); (try clear hb2); (try clear hk); (try clear hi)) | (go_at_call 14; (with_reducible refine (mask_Month_Nth.calls k t126 (-1) t128 _ ?side1 A4.out).mono ?_); (case side1 => exact GOK.below HG.out (by repeat (first | (with_reducible first | exact HB.out | apply below_alloc | apply pw_below_drewN | apply below_drew1) | exact HB.out))); rintro e w32 ⟨rfl, hb⟩; have n0_ := Aside0.mk (below_step (by repeat (first | (with_reducible first | exact HB.out | apply below_alloc | apply pw_below_drewN | apply below_drew1) | exact HB.out)) hb); clear HB; have HB := n0_; clear n0_; (try clear hb); (try clear hb2); (try clear hk); (try clear hi)) | (go_at_call 14; (with_reducible refine (mask_Month_Nth.calls k t126 3 t129 _ ?side1 A6.out).mono ?_); (case side1 => exact GOK.below HG.out (by repeat (first | (with_reducible first | exact HB.out | apply below_alloc | apply pw_below_drewN | apply below_drew1) | exact HB.out))); rintro e w33 ⟨rfl, hb⟩; have n0_ := Aside0.mk (below_step (by repeat (first | (with_reducible first | exact HB.out | apply below_alloc | apply pw_below_drewN | apply below_drew1) | exact HB.out)) hb); clear HB; have HB := n0_; clear n0_; (try clear hb); (try clear hb2); (try clear hk); (try clear hi)))
        go_ret
        exact ⟨by first | rfl | (simp [errW_none, errW_some] <;> rfl) | (simp [*, errW_none, errW_some] <;> rfl), by repeat (first | (with_reducible first | exact HB.out | apply below_alloc | apply pw_below_drewN | apply below_drew1) | exact HB.out)⟩
    · rw [if_neg c5] at H
      have c5b0 : (t128 == 29) = false := beq_eq_false_iff_ne.mpr c5
      have c5b1 : (t128 != 29) = true := bne_iff_ne.mpr c5
      obtain rfl := Option.some.inj H
      go_enter Tryd.func23, Tryd.ntmps23
      go_wp2_with (first | ((with_reducible refine gate_callee (f := 24) rfl ?_); refine goesL_ (some 2) rfl rfl Tryd.func24 (by kernel_rfl) rfl #[.int .u8 31, .int .i64 3, .int .i64 29] rfl (by (try simp only [List.map_toArray, List.map_cons, List.map_nil]); first | done | rfl | (simp only [List.length_drop, List.length_take]; rfl)) ?_; (with_reducible refine (mask_Week.calls k 31 3 29 t126 _ A1.out).mono ?_); rintro e w34 ⟨rfl, hb⟩; refine ⟨_, rfl, ?_⟩; have n0_ := Aside0.mk (below_step (by repeat (first | (with_reducible first | exact HB.out | apply below_alloc | apply pw_below_drewN | apply below_drew1) | exact HB.out)) hb); clear HB; have HB := n0_; clear n0_; (try clear hb); (try clear hb2); (try clear hk); (try clear hi)) | ((with_reducible refine gate_callee (f := 12) rfl ?_); refine goesL_ (some 4) rfl rfl Tryd.func12 (by kernel_rfl) rfl #[.int .u32 t126] rfl (by (try simp only [List.map_toArray, List.map_cons, List.map_nil]); first | done | rfl | (simp only [List.length_drop, List.length_take]; rfl)) ?_; (with_reducible refine (mask_Month_Count.calls t126 t127 _ A2.out).mono ?_); rintro e w35 ⟨rfl, hb⟩; refine ⟨_, rfl, ?_⟩; have n0_ := Aside0.mk (below_step (by repeat (first | (with_reducible first | exact HB.out | apply below_alloc | apply pw_below_drewN | apply below_drew1) | exact HB.out)) hb); clear HB; have HB := n0_; clear n0_; (try clear hb); (try clear hb2); (try clear hk); (try clear hi)) | (go_at_call 14; (with_reducible refine (mask_Month_Nth.calls k t126 (-1) t128 _ ?side1 A4.out).mono ?_); (case side1 => exact GOK.below HG.out (by repeat (first | (with_reducible first | exact HB.out | apply below_alloc | apply pw_below_drewN | apply below_drew1) | exact HB.out))); rintro e w36 ⟨rfl, hb⟩; have n0_ := Aside0.mk (below_step (by repeat (first | (with_reducible first | exact HB.out | apply below_alloc | apply pw_below_drewN | apply below_drew1) | exact HB.out)) hb); clear HB; have HB := n0_; clear n0_; (try clear hb); (try clear hb2); (try clear hk); (try clear hi)))
      go_ret
      exact ⟨by first | rfl | (simp [errW_none, errW_some] <;> rfl) | (simp [*, errW_none, errW_some] <;> rfl), by repeat (first | (with_reducible first | exact HB.out | apply below_alloc | apply pw_below_drewN | apply below_drew1) | exact HB.out)⟩
  · rw [if_neg c3] at H
    have c3b0 : (t127 == 21) = false := beq_eq_false_iff_ne.mpr c3
    have c3b1 : (t127 != 21) = true := bne_iff_ne.mpr c3
    obtain rfl := Option.some.inj H
    go_enter Tryd.func23, Tryd.ntmps23
    go_wp2_with (first | ((with_reducible refine gate_callee (f := 24) rfl ?_); refine goesL_ (some 2) rfl rfl Tryd.func24 (by kernel_rfl) rfl #[.int .u8 31, .int .i64 3, .int .i64 29] rfl (by (try simp only [List.map_toArray, List.map_cons, List.map_nil]); first | done | rfl | (simp only [List.length_drop, List.length_take]; rfl)) ?_; (with_reducible refine (mask_Week.calls k 31 3 29 t126 _ A1.out).mono ?_); rintro e w37 ⟨rfl, hb⟩; refine ⟨_, rfl, ?_⟩; have n0_ := Aside0.mk (below_step (by repeat (first | (with_reducible first | exact HB.out | apply below_alloc | apply pw_below_drewN | apply below_drew1) | exact HB.out)) hb); clear HB; have HB := n0_; clear n0_; (try clear hb); (try clear hb2); (try clear hk); (try clear hi)) | ((with_reducible refine gate_callee (f := 12) rfl ?_); refine goesL_ (some 4) rfl rfl Tryd.func12 (by kernel_rfl) rfl #[.int .u32 t126] rfl (by (try simp only [List.map_toArray, List.map_cons, List.map_nil]); first | done | rfl | (simp only [List.length_drop, List.length_take]; rfl)) ?_; (with_reducible refine (mask_Month_Count.calls t126 t127 _ A2.out).mono ?_); rintro e w38 ⟨rfl, hb⟩; refine ⟨_, rfl, ?_⟩; have n0_ := Aside0.mk (below_step (by repeat (first | (with_reducible first | exact HB.out | apply below_alloc | apply pw_below_drewN | apply below_drew1) | exact HB.out)) hb); clear HB; have HB := n0_; clear n0_; (try clear hb); (try clear hb2); (try clear hk); (try clear hi)))
    go_ret
    exact ⟨by first | rfl | (simp [errW_none, errW_some] <;> rfl) | (simp [*, errW_none, errW_some] <;> rfl), by repeat (first | (with_reducible first | exact HB.out | apply below_alloc | apply pw_below_drewN | apply below_drew1) | exact HB.out)⟩

/-! ### dayshiftlaw05_MaskBoth: function 6 -/
def dayshiftlaw05_MaskBoth.f (k : Nat) (a0 : Int) (a1 : Int) (a2 : Int) : Option (Bool) := (mask_Month_Count.f (Go.bits .or .u32 a0 a1)).bind fun t133 => ((mask_Month_Count.f (Go.bits .and .u32 a0 a1)).bind fun t134 => ((mask_Month_Count.f a0).bind fun t135 => ((mask_Month_Count.f a1).bind fun t136 => (if (wrap64 (t133 + t134)) = (wrap64 (t135 + t136)) then ((mask_Month_Has.f (Go.bits .and .u32 a0 a1) a2).bind fun t137 => ((mask_Month_Has.f a0 a2).bind fun t138 => (if t138 = true then ((mask_Month_Has.f a1 a2).bind fun t139 => (if (t137 == t139) = true then ((mask_Month_Has.f (Go.bits .or .u32 a0 a1) a2).bind fun t140 => ((mask_Month_Has.f a0 a2).bind fun t141 => (if t141 = true then (if (t140 == true) = true then ((dayshiftlaw05_known.f k).bind fun t142 => (some t142)) else (some false)) else ((mask_Month_Has.f a1 a2).bind fun t143 => (if (t140 == t143) = true then ((dayshiftlaw05_known.f k).bind fun t144 => (some t144)) else (some false)))))) else (some false))) else (if (t137 == false) = true then ((mask_Month_Has.f (Go.bits .or .u32 a0 a1) a2).bind fun t145 => ((mask_Month_Has.f a0 a2).bind fun t146 => (if t146 = true then (if (t145 == true) = true then ((dayshiftlaw05_known.f k).bind fun t147 => (some t147)) else (some false)) else ((mask_Month_Has.f a1 a2).bind fun t148 => (if (t145 == t148) = true then ((dayshiftlaw05_known.f k).bind fun t149 => (some t149)) else (some false)))))) else (some false))))) else (some false)))))
theorem dayshiftlaw05_MaskBoth.mono : ∀ a0 a1 a2 k, LeO (dayshiftlaw05_MaskBoth.f k a0 a1 a2) (dayshiftlaw05_MaskBoth.f (k + 1) a0 a1 a2) := by
  intro a0 a1 a2 k
  unfold dayshiftlaw05_MaskBoth.f
  repeat' first
      | (with_reducible exact dayshiftlaw05_known.mono _)
      | (with_reducible exact LeO.refl _)
      | (with_reducible exact LeO.none _)
      | (with_reducible refine LeO.ite ?_ ?_)
      | (with_reducible refine LeO.bind ?_ (fun _ => ?_))
      | exact dayshiftlaw05_known.mono _
      | exact LeO.none _
      | refine LeO.ite ?_ ?_
      | refine LeO.bind ?_ (fun _ => ?_)
set_option maxHeartbeats 8000000 in
set_option maxRecDepth 100000 in
theorem dayshiftlaw05_MaskBoth.calls (k : Nat) (a0 : Int) (a1 : Int) (a2 : Int) (r : Bool) (w : World) (hg : GOK w) (hr : r = true) (h : dayshiftlaw05_MaskBoth.f k a0 a1 a2 = some r) :
    Calls Tryd.prog 6 #[.int .u32 a0, .int .u32 a1, .int .i64 a2] w fun e w' => e = .returned (.bool r) ∧ Below w.heap.size w w' := by
  have HB := Aside0.mk (Below.refl w.heap.size w)
  have HG := Aside0.mk hg
  clear hg
  have Hr := Aside0.mk hr
  clear hr
  have H : ((mask_Month_Count.f (Go.bits .or .u32 a0 a1)).bind fun t133 => ((mask_Month_Count.f (Go.bits .and .u32 a0 a1)).bind fun t134 => ((mask_Month_Count.f a0).bind fun t135 => ((mask_Month_Count.f a1).bind fun t136 => (if (wrap64 (t133 + t134)) = (wrap64 (t135 + t136)) then ((mask_Month_Has.f (Go.bits .and .u32 a0 a1) a2).bind fun t137 => ((mask_Month_Has.f a0 a2).bind fun t138 => (if t138 = true then ((mask_Month_Has.f a1 a2).bind fun t139 => (if (t137 == t139) = true then ((mask_Month_Has.f (Go.bits .or .u32 a0 a1) a2).bind fun t140 => ((mask_Month_Has.f a0 a2).bind fun t141 => (if t141 = true then (if (t140 == true) = true then ((dayshiftlaw05_known.f k).bind fun t142 => (some t142)) else (some false)) else ((mask_Month_Has.f a1 a2).bind fun t143 => (if (t140 == t143) = true then ((dayshiftlaw05_known.f k).bind fun t144 => (some t144)) else (some false)))))) else (some false))) else (if (t137 == false) = true then ((mask_Month_Has.f (Go.bits .or .u32 a0 a1) a2).bind fun t145 => ((mask_Month_Has.f a0 a2).bind fun t146 => (if t146 = true then (if (t145 == true) = true then ((dayshiftlaw05_known.f k).bind fun t147 => (some t147)) else (some false)) else ((mask_Month_Has.f a1 a2).bind fun t148 => (if (t145 == t148) = true then ((dayshiftlaw05_known.f k).bind fun t149 => (some t149)) else (some false)))))) else (some false))))) else (some false)))))) = some r := h
  clear h
  replace H := Option.bind_eq_some_iff.mp H
  obtain ⟨t133, A40, H⟩ := H
  replace H : ((mask_Month_Count.f (Go.bits .and .u32 a0 a1)).bind fun t134 => ((mask_Month_Count.f a0).bind fun t135 => ((mask_Month_Count.f a1).bind fun t136 => (if (wrap64 (t133 + t134)) = (wrap64 (t135 + t136)) then ((mask_Month_Has.f (Go.bits .and .u32 a0 a1) a2).bind fun t137 => ((mask_Month_Has.f a0 a2).bind fun t138 => (if t138 = true then ((mask_Month_Has.f a1 a2).bind fun t139 => (if (t137 == t139) = true then ((mask_Month_Has.f (Go.bits .or .u32 a0 a1) a2).bind fun t140 => ((mask_Month_Has.f a0 a2).bind fun t141 => (if t141 = true then (if (t140 == true) = true then ((dayshiftlaw05_known.f k).bind fun t142 => (some t142)) else (some false)) else ((mask_Month_Has.f a1 a2).bind fun t143 => (if (t140 == t143) = true then ((dayshiftlaw05_known.f k).bind fun t144 => (some t144)) else (some false)))))) else (some false))) else (if (t137 == false) = true then ((mask_Month_Has.f (Go.bits .or .u32 a0 a1) a2).bind fun t145 => ((mask_Month_Has.f a0 a2).bind fun t146 => (if t146 = true then (if (t145 == true) = true then ((dayshiftlaw05_known.f k).bind fun t147 => (some t147)) else (some false)) else ((mask_Month_Has.f a1 a2).bind fun t148 => (if (t145 == t148) = true then ((dayshiftlaw05_known.f k).bind fun t149 => (some t149)) else (some false)))))) else (some false))))) else (some false))))) = some r := H
  have A4 := Aside0.mk A40
  clear A40
  replace H := Option.bind_eq_some_iff.mp H
  obtain ⟨t134, A50, H⟩ := H
  replace H : ((mask_Month_Count.f a0).bind fun t135 => ((mask_Month_Count.f a1).bind fun t136 => (if (wrap64 (t133 + t134)) = (wrap64 (t135 + t136)) then ((mask_Month_Has.f (Go.bits .and .u32 a0 a1) a2).bind fun t137 => ((mask_Month_Has.f a0 a2).bind fun t138 => (if t138 = true then ((mask_Month_Has.f a1 a2).bind fun t139 => (if (t137 == t139) = true then ((mask_Month_Has.f (Go.bits .or .u32 a0 a1) a2).bind fun t140 => ((mask_Month_Has.f a0 a2).bind fun t141 => (if t141 = true then (if (t140 == true) = true then ((dayshiftlaw05_known.f k).bind fun t142 => (some t142)) else (some false)) else ((mask_Month_Has.f a1 a2).bind fun t143 => (if (t140 == t143) = true then ((dayshiftlaw05_known.f k).bind fun t144 => (some t144)) else (some false)))))) else (some false))) else (if (t137 == false) = true then ((mask_Month_Has.f (Go.bits .or .u32 a0 a1) a2).bind fun t145 => ((mask_Month_Has.f a0 a2).bind fun t146 => (if t146 = true then (if (t145 == true) = true then ((dayshiftlaw05_known.f k).bind fun t147 => (some t147)) else (some false)) else ((mask_Month_Has.f a1 a2).bind fun t148 => (if (t145 == t148) = true then ((dayshiftlaw05_known.f k).bind fun t149 => (some t149)) else (some false)))))) else (some false))))) else (some false)))) = some r := H
  have A5 := Aside0.mk A50
  clear A50
  replace H := Option.bind_eq_some_iff.mp H
  obtain ⟨t135, A60, H⟩ := H
  replace H : ((mask_Month_Count.f a1).bind fun t136 => (if (wrap64 (t133 + t134)) = (wrap64 (t135 + t136)) then ((mask_Month_Has.f (Go.bits .and .u32 a0 a1) a2).bind fun t137 => ((mask_Month_Has.f a0 a2).bind fun t138 => (if t138 = true then ((mask_Month_Has.f a1 a2).bind fun t139 => (if (t137 == t139) = true then ((mask_Month_Has.f (Go.bits .or .u32 a0 a1) a2).bind fun t140 => ((mask_Month_Has.f a0 a2).bind fun t141 => (if t141 = true then (if (t140 == true) = true then ((dayshiftlaw05_known.f k).bind fun t142 => (some t142)) else (some false)) else ((mask_Month_Has.f a1 a2).bind fun t143 => (if (t140 == t143) = true then ((dayshiftlaw05_known.f k).bind fun t144 => (some t144)) else (some false)))))) else (some false))) else (if (t137 == false) = true then ((mask_Month_Has.f (Go.bits .or .u32 a0 a1) a2).bind fun t145 => ((mask_Month_Has.f a0 a2).bind fun t146 => (if t146 = true then (if (t145 == true) = true then ((dayshiftlaw05_known.f k).bind fun t147 => (some t147)) else (some false)) else ((mask_Month_Has.f a1 a2).bind fun t148 => (if (t145 == t148) = true then ((dayshiftlaw05_known.f k).bind fun t149 => (some t149)) else (some false)))))) else (some false))))) else (some false))) = some r := H
  have A6 := Aside0.mk A60
  clear A60
  replace H := Option.bind_eq_some_iff.mp H
  obtain ⟨t136, A70, H⟩ := H
  replace H : (if (wrap64 (t133 + t134)) = (wrap64 (t135 + t136)) then ((mask_Month_Has.f (Go.bits .and .u32 a0 a1) a2).bind fun t137 => ((mask_Month_Has.f a0 a2).bind fun t138 => (if t138 = true then ((mask_Month_Has.f a1 a2).bind fun t139 => (if (t137 == t139) = true then ((mask_Month_Has.f (Go.bits .or .u32 a0 a1) a2).bind fun t140 => ((mask_Month_Has.f a0 a2).bind fun t141 => (if t141 = true then (if (t140 == true) = true then ((dayshiftlaw05_known.f k).bind fun t142 => (some t142)) else (some false)) else ((mask_Month_Has.f a1 a2).bind fun t143 => (if (t140 == t143) = true then ((dayshiftlaw05_known.f k).bind fun t144 => (some t144)) else (some false)))))) else (some false))) else (if (t137 == false) = true then ((mask_Month_Has.f (Go.bits .or .u32 a0 a1) a2).bind fun t145 => ((mask_Month_Has.f a0 a2).bind fun t146 => (if t146 = true then (if (t145 == true) = true then ((dayshiftlaw05_known.f k).bind fun t147 => (some t147)) else (some false)) else ((mask_Month_Has.f a1 a2).bind fun t148 => (if (t145 == t148) = true then ((dayshiftlaw05_known.f k).bind fun t149 => (some t149)) else (some false)))))) else (some false))))) else (some false)) = some r := H
  have A7 := Aside0.mk A70
  clear A70
  by_cases c8 : (wrap64 (t133 + t134)) = (wrap64 (t135 + t136))
  · rw [if_pos c8] at H
    have c8b0 : ((wrap64 (t133 + t134)) == (wrap64 (t135 + t136))) = true := beq_iff_eq.mpr c8
    have c8b1 : ((wrap64 (t133 + t134)) != (wrap64 (t135 + t136))) = false := bne_eq_false_iff_eq.mpr c8
    clear c8
    replace H := Option.bind_eq_some_iff.mp H
    obtain ⟨t137, A90, H⟩ := H
    replace H : ((mask_Month_Has.f a0 a2).bind fun t138 => (if t138 = true then ((mask_Month_Has.f a1 a2).bind fun t139 => (if (t137 == t139) = true then ((mask_Month_Has.f (Go.bits .or .u32 a0 a1) a2).bind fun t140 => ((mask_Month_Has.f a0 a2).bind fun t141 => (if t141 = true then (if (t140 == true) = true then ((dayshiftlaw05_known.f k).bind fun t142 => (some t142)) else (some false)) else ((mask_Month_Has.f a1 a2).bind fun t143 => (if (t140 == t143) = true then ((dayshiftlaw05_known.f k).bind fun t144 => (some t144)) else (some false)))))) else (some false))) else (if (t137 == false) = true then ((mask_Month_Has.f (Go.bits .or .u32 a0 a1) a2).bind fun t145 => ((mask_Month_Has.f a0 a2).bind fun t146 => (if t146 = true then (if (t145 == true) = true then ((dayshiftlaw05_known.f k).bind fun t147 => (some t147)) else (some false)) else ((mask_Month_Has.f a1 a2).bind fun t148 => (if (t145 == t148) = true then ((dayshiftlaw05_known.f k).bind fun t149 => (some t149)) else (some false)))))) else (some false)))) = some r := H
    have A9 := Aside0.mk A90
    clear A90
    replace H := Option.bind_eq_some_iff.mp H
    obtain ⟨t138, A100, H⟩ := H
    replace H : (if t138 = true then ((mask_Month_Has.f a1 a2).bind fun t139 => (if (t137 == t139) = true then ((mask_Month_Has.f (Go.bits .or .u32 a0 a1) a2).bind fun t140 => ((mask_Month_Has.f a0 a2).bind fun t141 => (if t141 = true then (if (t140 == true) = true then ((dayshiftlaw05_known.f k).bind fun t142 => (some t142)) else (some false)) else ((mask_Month_Has.f a1 a2).bind fun t143 => (if (t140 == t143) = true then ((dayshiftlaw05_known.f k).bind fun t144 => (some t144)) else (some false)))))) else (some false))) else (if (t137 == false) = true then ((mask_Month_Has.f (Go.bits .or .u32 a0 a1) a2).bind fun t145 => ((mask_Month_Has.f a0 a2).bind fun t146 => (if t146 = true then (if (t145 == true) = true then ((dayshiftlaw05_known.f k).bind fun t147 => (some t147)) else (some false)) else ((mask_Month_Has.f a1 a2).bind fun t148 => (if (t145 == t148) = true then ((dayshiftlaw05_known.f k).bind fun t149 => (some t149)) else (some false)))))) else (some false))) = some r := H
    have A10 := Aside0.mk A100
    clear A100
    by_cases c11 : t138 = true
    · subst c11
      have H1 : ((mask_Month_Has.f a1 a2).bind fun t139 => (if (t137 == t139) = true then ((mask_Month_Has.f (Go.bits .or .u32 a0 a1) a2).bind fun t140 => ((mask_Month_Has.f a0 a2).bind fun t141 => (if t141 = true then (if (t140 == true) = true then ((dayshiftlaw05_known.f k).bind fun t142 => (some t142)) else (some false)) else ((mask_Month_Has.f a1 a2).bind fun t143 => (if (t140 == t143) = true then ((dayshiftlaw05_known.f k).bind fun t144 => (some t144)) else (some false)))))) else (some false))) = some r := by rw [if_pos rfl] at H; exact H
      clear H
      have H := H1
      clear H1
      replace H := Option.bind_eq_some_iff.mp H
      obtain ⟨t139, A120, H⟩ := H
      replace H : (if (t137 == t139) = true then ((mask_Month_Has.f (Go.bits .or .u32 a0 a1) a2).bind fun t140 => ((mask_Month_Has.f a0 a2).bind fun t141 => (if t141 = true then (if (t140 == true) = true then ((dayshiftlaw05_known.f k).bind fun t142 => (some t142)) else (some false)) else ((mask_Month_Has.f a1 a2).bind fun t143 => (if (t140 == t143) = true then ((dayshiftlaw05_known.f k).bind fun t144 => (some t144)) else (some false)))))) else (some false)) = some r := H
      have A12 := Aside0.mk A120
      clear A120
      by_cases c13 : (t137 == t139) = true
      · rw [if_pos c13] at H
        have c13b0 : (t137 == t139) = true := c13
        (try (have c13b1 : decide (t137 = t139) = true := by simpa using c13))
        (try (have c13b2 : (t137 == t139) = true := by simpa using c13))
        clear c13
        replace H := Option.bind_eq_some_iff.mp H
        obtain ⟨t140, A140, H⟩ := H
        replace H : ((mask_Month_Has.f a0 a2).bind fun t141 => (if t141 = true then (if (t140 == true) = true then ((dayshiftlaw05_known.f k).bind fun t142 => (some t142)) else (some false)) else ((mask_Month_Has.f a1 a2).bind fun t143 => (if (t140 == t143) = true then ((dayshiftlaw05_known.f k).bind fun t144 => (some t144)) else (some false))))) = some r := H
        have A14 := Aside0.mk A140
        clear A140
        replace H := Option.bind_eq_some_iff.mp H
        obtain ⟨t141, A150, H⟩ := H
        replace H : (if t141 = true then (if (t140 == true) = true then ((dayshiftlaw05_known.f k).bind fun t142 => (some t142)) else (some false)) else ((mask_Month_Has.f a1 a2).bind fun t143 => (if (t140 == t143) = true then ((dayshiftlaw05_known.f k).bind fun t144 => (some t144)) else (some false)))) = some r := H
        have A15 := Aside0.mk A150
        clear A150
        by_cases c16 : t141 = true
        · subst c16
          have H1 : (if (t140 == true) = true then ((dayshiftlaw05_known.f k).bind fun t142 => (some t142)) else (some false)) = some r := by rw [if_pos rfl] at H; exact H
          clear H
          have H := H1
          clear H1
          by_cases c17 : (t140 == true) = true
          · rw [if_pos c17] at H
            have c17b0 : (t140 == true) = true := c17
            (try (have c17b1 : decide (t140 = true) = true := by simpa using c17))
            (try (have c17b2 : (t140 == true) = true := by simpa using c17))
            clear c17
            replace H := Option.bind_eq_some_iff.mp H
            obtain ⟨t142, A180, H⟩ := H
            replace H : (some t142) = some r := H
            have A18 := Aside0.mk A180
            clear A180
            obtain rfl := Option.some.inj H
            go_enter Tryd.func6, Tryd.ntmps6
            go_wp2_with (first | ((with_reducible refine gate_callee (f := 12) rfl ?_); refine goesL_ (some 14) rfl rfl Tryd.func12 (by kernel_rfl) rfl #[.int .u32 (Go.bits .or .u32 a0 a1)] rfl (by (try simp only [List.map_toArray, List.map_cons, List.map_nil]); first | done | rfl | (simp only [List.length_drop, List.length_take]; rfl)) ?_; (with_reducible refine (mask_Month_Count.calls (Go.bits .or .u32 a0 a1) t133 _ A4.out).mono ?_); rintro e w19 ⟨rfl, hb⟩; refine ⟨_, rfl, ?_⟩; have n0_ := Aside0.mk (below_step (by repeat (first | (with_reducible first | exact HB.out | apply below_alloc | apply pw_below_drewN | apply below_drew1) | exact HB.out)) hb); clear HB; have HB := n0_; clear n0_; (try clear hb); (try clear hb2); (try clear hk); (try clear hi)) | ((with_reducible refine gate_callee (f := 12) rfl ?_); refine goesL_ (some 18) rfl rfl Tryd.func12 (by kernel_rfl) rfl #[.int .u32 (Go.bits .and .u32 a0 a1)] rfl (by (try simp only [List.map_toArray, List.map_cons, List.map_nil]); first | done | rfl | (simp only [List.length_drop, List.length_take]; rfl)) ?_; (with_reducible refine (mask_Month_Count.calls (Go.bits .and .u32 a0 a1) t134 _ A5.out).mono ?_); rintro e w20 ⟨rfl, hb⟩; refine ⟨_, rfl, ?_⟩; have n0_ := Aside0.mk (below_step (by repeat (first | (with_reducible first | exact HB.out | apply below_alloc | apply pw_below_drewN | apply below_drew1) | exact HB.out)) hb); clear HB; have HB := n0_; clear n0_; (try clear hb); (try clear hb2); (try clear hk); (try clear hi)) | ((with_reducible refine gate_callee (f := 12) rfl ?_); refine goesL_ (some 21) rfl rfl Tryd.func12 (by kernel_rfl) rfl #[.int .u32 a0] rfl (by (try simp only [List.map_toArray, List.map_cons, List.map_nil]); first | done | rfl | (simp only [List.length_drop, List.length_take]; rfl)) ?_; (with_reducible refine (mask_Month_Count.calls a0 t135 _ A6.out).mono ?_); rintro e w21 ⟨rfl, hb⟩; refine ⟨_, rfl, ?_⟩; have n0_ := Aside0.mk (below_step (by repeat (first | (with_reducible first | exact HB.out | apply below_alloc | apply pw_below_drewN | apply below_drew1) | exact HB.out)) hb); clear HB; have HB := n0_; clear n0_; (try clear hb); (try clear hb2); (try clear hk); (try clear hi)) | ((with_reducible refine gate_callee (f := 12) rfl ?_); refine goesL_ (some 23) rfl rfl Tryd.func12 (by kernel_rfl) rfl #[.int .u32 a1] rfl (by (try simp only [List.map_toArray, List.map_cons, List.map_nil]); first | done | rfl | (simp only [List.length_drop, List.length_take]; rfl)) ?_; (with_reducible refine (mask_Month_Count.calls a1 t136 _ A7.out).mono ?_); rintro e w22 ⟨rfl, hb⟩; refine ⟨_, rfl, ?_⟩; have n0_ := Aside0.mk (below_step (by repeat (first | (with_reducible first | exact HB.out | apply below_alloc | apply pw_below_drewN | apply below_drew1) | exact HB.out)) hb); clear HB; have HB := n0_; clear n0_; (try clear hb); (try clear hb2); (try clear hk); (try clear hi)) | (go_at_call 10; (with_reducible refine (mask_Month_Has.calls (Go.bits .and .u32 a0 a1) a2 t137 _ A9.out).mono ?_); rintro e w' ⟨rfl, ⟨nd, rfl⟩⟩) | (go_at_call 10; (with_reducible refine (mask_Month_Has.calls a0 a2 true _ A10.out).mono ?_); rintro e w' ⟨rfl, ⟨nd, rfl⟩⟩) | (go_at_call 10; (with_reducible refine (mask_Month_Has.calls a1 a2 t139 _ A12.out).mono ?_); rintro e w' ⟨rfl, ⟨nd, rfl⟩⟩) | (go_at_call 10; (with_reducible refine (mask_Month_Has.calls (Go.bits .or .u32 a0 a1) a2 t140 _ A14.out).mono ?_); rintro e w' ⟨rfl, ⟨nd, rfl⟩⟩) | (go_at_call 10; (with_reducible refine (mask_Month_Has.calls a0 a2 true _ A15.out).mono ?_); rintro e w' ⟨rfl, ⟨nd, rfl⟩⟩) | (go_at_call 23; (with_reducible refine (dayshiftlaw05_known.calls k  t142 _ ?side1 A18.out).mono ?_); (case side1 => exact GOK.below HG.out (by repeat (first | (with_reducible first | exact HB.out | apply below_alloc | apply pw_below_drewN | apply below_drew1) | exact HB.out))); rintro e w23 ⟨rfl, hb⟩; have n0_ := Aside0.mk (below_step (by repeat (first | (with_reducible first | exact HB.out | apply below_alloc | apply pw_below_drewN | apply below_drew1) | exact HB.out)) hb); clear HB; have HB := n0_; clear n0_; (try clear hb); (try clear hb2); (try clear hk); (try clear hi)))
            go_ret
            exact ⟨by first | rfl | (simp [errW_none, errW_some] <;> rfl) | (simp [*, errW_none, errW_some] <;> rfl), by repeat (first | (with_reducible first | exact HB.out | apply below_alloc | apply pw_below_drewN | apply below_drew1) | exact HB.out)⟩
          · rw [if_neg c17] at H
            have c17b0 : (t140 == true) = false := by simpa using c17
            (try (have c17b1 : decide (t140 = true) = false := by simpa using c17))
            (try (have c17b2 : (t140 == true) = false := by simpa using c17))
            (try (have c17b3 : ¬ (t140 = true) := by simpa using c17))
            clear c17
            exact absurd ((Option.some.inj H).trans Hr.out) (by decide)
        · replace c16 := Bool.eq_false_iff.mpr c16
          subst c16
          have H1 : ((mask_Month_Has.f a1 a2).bind fun t143 => (if (t140 == t143) = true then ((dayshiftlaw05_known.f k).bind fun t144 => (some t144)) else (some false))) = some r := by rw [if_neg (show ¬ (false = true) by decide)] at H; exact H
          clear H
          have H := H1
          clear H1
          replace H := Option.bind_eq_some_iff.mp H
          obtain ⟨t143, A240, H⟩ := H
          replace H : (if (t140 == t143) = true then ((dayshiftlaw05_known.f k).bind fun t144 => (some t144)) else (some false)) = some r := H
          have A24 := Aside0.mk A240
          clear A240
          obtain rfl := Option.some.inj (A12.out.symm.trans A24.out)
          by_cases c25 : (t140 == t139) = true
          · rw [if_pos c25] at H
            have c25b0 : (t140 == t139) = true := c25
            (try (have c25b1 : decide (t140 = t139) = true := by simpa using c25))
            (try (have c25b2 : (t140 == t139) = true := by simpa using c25))
            clear c25
            replace H := Option.bind_eq_some_iff.mp H
            obtain ⟨t144, A260, H⟩ := H
            replace H : (some t144) = some r := H
            have A26 := Aside0.mk A260
            clear A260
            exact absurd (A10.out.symm.trans A15.out) (by decide)
          · rw [if_neg c25] at H
            have c25b0 : (t140 == t139) = false := by simpa using c25
            (try (have c25b1 : decide (t140 = t139) = false := by simpa using c25))
            (try (have c25b2 : (t140 == t139) = false := by simpa using c25))
            (try (have c25b3 : ¬ (t140 = t139) := by simpa using c25))
            clear c25
            exact absurd (A10.out.symm.trans A15.out) (by decide)
      · rw [if_neg c13] at H
        have c13b0 : (t137 == t139) = false := by simpa using c13
        (try (have c13b1 : decide (t137 = t139) = false := by simpa using c13))
        (try (have c13b2 : (t137 == t139) = false := by simpa using c13))
        (try (have c13b3 : ¬ (t137 = t139) := by simpa using c13))
        clear c13
        exact absurd ((Option.some.inj H).trans Hr.out) (by decide)
    · replace c11 := Bool.eq_false_iff.mpr c11
      subst c11
      have H1 : (if (t137 == false) = true then ((mask_Month_Has.f (Go.bits .or .u32 a0 a1) a2).bind fun t145 => ((mask_Month_Has.f a0 a2).bind fun t146 => (if t146 = true then (if (t145 == true) = true then ((dayshiftlaw05_known.f k).bind fun t147 => (some t147)) else (some false)) else ((mask_Month_Has.f a1 a2).bind fun t148 => (if (t145 == t148) = true then ((dayshiftlaw05_known.f k).bind fun t149 => (some t149)) else (some false)))))) else (some false)) = some r := by rw [if_neg (show ¬ (false = true) by decide)] at H; exact H
      clear H
      have H := H1
      clear H1
      by_cases c27 : (t137 == false) = true
      · rw [if_pos c27] at H
        have c27b0 : (t137 == false) = true := c27
        (try (have c27b1 : decide (t137 = false) = true := by simpa using c27))
        (try (have c27b2 : (t137 == false) = true := by simpa using c27))
        clear c27
        replace H := Option.bind_eq_some_iff.mp H
        obtain ⟨t145, A280, H⟩ := H
        replace H : ((mask_Month_Has.f a0 a2).bind fun t146 => (if t146 = true then (if (t145 == true) = true then ((dayshiftlaw05_known.f k).bind fun t147 => (some t147)) else (some false)) else ((mask_Month_Has.f a1 a2).bind fun t148 => (if (t145 == t148) = true then ((dayshiftlaw05_known.f k).bind fun t149 => (some t149)) else (some false))))) = some r := H
        have A28 := Aside0.mk A280
        clear A280
        replace H := Option.bind_eq_some_iff.mp H
        obtain ⟨t146, A290, H⟩ := H
        replace H : (if t146 = true then (if (t145 == true) = true then ((dayshiftlaw05_known.f k).bind fun t147 => (some t147)) else (some false)) else ((mask_Month_Has.f a1 a2).bind fun t148 => (if (t145 == t148) = true then ((dayshiftlaw05_known.f k).bind fun t149 => (some t149)) else (some false)))) = some r := H
        have A29 := Aside0.mk A290
        clear A290
        by_cases c30 : t146 = true
        · subst c30
          have H1 : (if (t145 == true) = true then ((dayshiftlaw05_known.f k).bind fun t147 => (some t147)) else (some false)) = some r := by rw [if_pos rfl] at H; exact H
          clear H
          have H := H1
          clear H1
          by_cases c31 : (t145 == true) = true
          · rw [if_pos c31] at H
            have c31b0 : (t145 == true) = true := c31
            (try (have c31b1 : decide (t145 = true) = true := by simpa using c31))
            (try (have c31b2 : (t145 == true) = true := by simpa using c31))
            clear c31
            replace H := Option.bind_eq_some_iff.mp H
            obtain ⟨t147, A320, H⟩ := H
            replace H : (some t147) = some r := H
            have A32 := Aside0.mk A320
            clear A320
            exact absurd (A10.out.symm.trans A29.out) (by decide)
          · rw [if_neg c31] at H
            have c31b0 : (t145 == true) = false := by simpa using c31
            (try (have c31b1 : decide (t145 = true) = false := by simpa using c31))
            (try (have c31b2 : (t145 == true) = false := by simpa using c31))
            (try (have c31b3 : ¬ (t145 = true) := by simpa using c31))
            clear c31
            exact absurd (A10.out.symm.trans A29.out) (by decide)
        · replace c30 := Bool.eq_false_iff.mpr c30
          subst c30
          have H1 : ((mask_Month_Has.f a1 a2).bind fun t148 => (if (t145 == t148) = true then ((dayshiftlaw05_known.f k).bind fun t149 => (some t149)) else (some false))) = some r := by rw [if_neg (show ¬ (false = true) by decide)] at H; exact H
          clear H
          have H := H1
          clear H1
          replace H := Option.bind_eq_some_iff.mp H
          obtain ⟨t148, A330, H⟩ := H
          replace H : (if (t145 == t148) = true then ((dayshiftlaw05_known.f k).bind fun t149 => (some t149)) else (some false)) = some r := H
          have A33 := Aside0.mk A330
          clear A330
          by_cases c34 : (t145 == t148) = true
          · rw [if_pos c34] at H
            have c34b0 : (t145 == t148) = true := c34
            (try (have c34b1 : decide (t145 = t148) = true := by simpa using c34))
            (try (have c34b2 : (t145 == t148) = true := by simpa using c34))
            clear c34
            replace H := Option.bind_eq_some_iff.mp H
            obtain ⟨t149, A350, H⟩ := H
            replace H : (some t149) = some r := H
            have A35 := Aside0.mk A350
            clear A350
            obtain rfl := Option.some.inj H
            go_enter Tryd.func6, Tryd.ntmps6
            go_wp2_with (first | ((with_reducible refine gate_callee (f := 12) rfl ?_); refine goesL_ (some 14) rfl rfl Tryd.func12 (by kernel_rfl) rfl #[.int .u32 (Go.bits .or .u32 a0 a1)] rfl (by (try simp only [List.map_toArray, List.map_cons, List.map_nil]); first | done | rfl | (simp only [List.length_drop, List.length_take]; rfl)) ?_; (with_reducible refine (mask_Month_Count.calls (Go.bits .or .u32 a0 a1) t133 _ A4.out).mono ?_); rintro e w36 ⟨rfl, hb⟩; refine ⟨_, rfl, ?_⟩; have n0_ := Aside0.mk (below_step (by repeat (first | (with_reducible first | exact HB.out | apply below_alloc | apply pw_below_drewN | apply below_drew1) | exact HB.out)) hb); clear HB; have HB := n0_; clear n0_; (try clear hb); (try clear hb2); (try clear hk); (try clear hi)) | ((with_reducible refine gate_callee (f := 12) rfl ?_); refine goesL_ (some 18) rfl rfl Tryd.func12 (by kernel_rfl) rfl #[.int .u32 (Go.bits .and .u32 a0 a1)] rfl (by (try simp only [List.map_toArray, List.map_cons, List.map_nil]); first | done | rfl | (simp only [List.length_drop, List.length_take]; rfl)) ?_; (with_reducible refine (mask_Month_Count.calls (Go.bits .and .u32 a0 a1) t134 _ A5.out).mono ?_); rintro e w37 ⟨rfl, hb⟩; refine ⟨_, rfl, ?_⟩; have n0_ := Aside0.mk (below_step (by repeat (first | (with_reducible first | exact HB.out | apply below_alloc | apply pw_below_drewN | apply below_drew1) | exact HB.out)) hb); clear HB; have HB := n0_; clear n0_; (try clear hb); (try clear hb2); (try clear hk); (try clear hi)) | ((with_reducible refine gate_callee (f := 12) rfl ?_); refine goesL_ (some 21) rfl rfl Tryd.func12 (by kernel_rfl) rfl #[.int .u32 a0] rfl (by (try simp only [List.map_toArray, List.map_cons, List.map_nil]); first | done | rfl | (simp only [List.length_drop, List.length_take]; rfl)) ?_; (with_reducible refine (mask_Month_Count.calls a0 t135 _ A6.out).mono ?_); rintro e w38 ⟨rfl, hb⟩; refine ⟨_, rfl, ?_⟩; have n0_ := Aside0.mk (below_step (by repeat (first | (with_reducible first | exact HB.out | apply below_alloc | apply pw_below_drewN | apply below_drew1) | exact HB.out)) hb); clear HB; have HB := n0_; clear n0_; (try clear hb); (try clear hb2); (try clear hk); (try clear hi)) | ((with_reducible refine gate_callee (f := 12) rfl ?_); refine goesL_ (some 23) rfl rfl Tryd.func12 (by kernel_rfl) rfl #[.int .u32 a1] rfl (by (try simp only [List.map_toArray, List.map_cons, List.map_nil]); first | done | rfl | (simp only [List.length_drop, List.length_take]; rfl)) ?_; (with_reducible refine (mask_Month_Count.calls a1 t136 _ A7.out).mono ?_); rintro e w39 ⟨rfl, hb⟩; refine ⟨_, rfl, ?_⟩; have n0_ := Aside0.mk (below_step (by repeat (first | (with_reducible first | exact HB.out | apply below_alloc | apply pw_below_drewN | apply below_drew1) | exact HB.out)) hb); clear HB; have HB := n0_; clear n0_; (try clear hb); (try clear hb2); (try clear hk); (try clear hi)) | (go_at_call 10; (with_reducible refine (mask_Month_Has.calls (Go.bits .and .u32 a0 a1) a2 t137 _ A9.out).mono ?_); rintro e w' ⟨rfl, ⟨nd, rfl⟩⟩) | (go_at_call 10; (with_reducible refine (mask_Month_Has.calls a0 a2 false _ A10.out).mono ?_); rintro e w' ⟨rfl, ⟨nd, rfl⟩⟩) | (go_at_call 10; (with_reducible refine (mask_Month_Has.calls (Go.bits .or .u32 a0 a1) a2 t145 _ A28.out).mono ?_); rintro e w' ⟨rfl, ⟨nd, rfl⟩⟩) | (go_at_call 10; (with_reducible refine (mask_Month_Has.calls a0 a2 false _ A29.out).mono ?_); rintro e w' ⟨rfl, ⟨nd, rfl⟩⟩) | (go_at_call 10; (with_reducible refine (mask_Month_Has.calls a1 a2 t148 _ A33.out).mono ?_); rintro e w' ⟨rfl, ⟨nd, rfl⟩⟩) | (go_at_call 23; (with_reducible refine (dayshiftlaw05_known.calls k  t149 _ ?side1 A35.out).mono ?_); (case side1 => exact GOK.below HG.out (by repeat (first | (with_reducible first | exact HB.out | apply below_alloc | apply pw_below_drewN | apply below_drew1) | exact HB.out))); rintro e w40 ⟨rfl, hb⟩; have n0_ := Aside0.mk (below_step (by repeat (first | (with_reducible first | exact HB.out | apply below_alloc | apply pw_below_drewN | apply below_drew1) | exact HB.out)) hb); clear HB; have HB := n0_; clear n0_; (try clear hb); (try clear hb2); (try clear hk); (try clear hi)))
            go_ret
            exact ⟨by first | rfl | (simp [errW_none, errW_some] <;> rfl) | (simp [*, errW_none, errW_some] <;> rfl), by repeat (first | (with_reducible first | exact HB.out | apply below_alloc | apply pw_below_drewN | apply below_drew1) | exact HB.out)⟩
          · rw [if_neg c34] at H
            have c34b0 : (t145 == t148) = false := by simpa using c34
            (try (have c34b1 : decide (t145 = t148) = false := by simpa using c34))
            (try (have c34b2 : (t145 == t148) = false := by simpa using c34))
            (try (have c34b3 : ¬ (t145 = t148) := by simpa using c34))
            clear c34
            exact absurd ((Option.some.inj H).trans Hr.out) (by decide)
      · rw [if_neg c27] at H
        have c27b0 : (t137 == false) = false := by simpa using c27
        (try (have c27b1 : decide (t137 = false) = false := by simpa using c27))
        (try (have c27b2 : (t137 == false) = false := by simpa using c27))
        (try (have c27b3 : ¬ (t137 = false) := by simpa using c27))
        clear c27
        exact absurd ((Option.some.inj H).trans Hr.out) (by decide)
  · rw [if_neg c8] at H
    have c8b0 : ((wrap64 (t133 + t134)) == (wrap64 (t135 + t136))) = false := beq_eq_false_iff_ne.mpr c8
    have c8b1 : ((wrap64 (t133 + t134)) != (wrap64 (t135 + t136))) = true := bne_iff_ne.mpr c8
    exact absurd ((Option.some.inj H).trans Hr.out) (by decide)

/-- THE ONE PURE STATEMENT of dayshiftlaw05_MaskBoth: yours. -/
def dayshiftlaw05_MaskBoth.Pure : Prop := ∀ (a0 : Int) (a1 : Int) (a2 : Int), (Lit.int .u32 a0).wf = true → (Lit.int .u32 a1).wf = true → (Lit.int .i64 a2).wf = true → ∃ k, dayshiftlaw05_MaskBoth.f k a0 a1 a2 = some true
theorem dayshiftlaw05_MaskBoth.walk (P : dayshiftlaw05_MaskBoth.Pure) (a0 : Int) (a1 : Int) (a2 : Int) (w : World) (w0 : (Lit.int .u32 a0).wf = true) (w1 : (Lit.int .u32 a1).wf = true) (w2 : (Lit.int .i64 a2).wf = true) (hg : GOK w) :
    Calls Tryd.prog 6 #[.int .u32 a0, .int .u32 a1, .int .i64 a2] w fun e w' => e = .returned (.bool true) ∧ Below w.heap.size w w' := by
  obtain ⟨k, h⟩ := P a0 a1 a2 w0 w1 w2
  refine (dayshiftlaw05_MaskBoth.calls k a0 a1 a2 true w hg rfl h).mono ?_
  rintro e w' ⟨rfl, hd⟩
  exact ⟨rfl, hd⟩

end Go.Proofs.YtndjcicjlmmjmaaDoor.PMaskBoth
