/- This text holds, for Go functions of the given program, Lean functions with the same answers, and proofs that the machine's calls come to these answers; each theorem names its own conditions. It was laid by a program of this session. -/
import Derived.Test.YtjfghphblgkoiaaPWeekEndsx0
import Derived.Test.YtjfghphblgkoiaaPWeekEndsx1
namespace Go.Proofs.Ytjfghphblgkoiaa.PWeekEnds
open Go.RowKit Go.Proofs.YtjfghphblgkoiaaW.PrintWords Go.Proofs.YtjfghphblgkoiaaW.PrintLast Go.Proofs.YtjfghphblgkoiaaW.PrintMore
attribute [local go_sem] max2_int min2_int max_two min_two max_three min_three max_four min_four   -- for this text's walks alone
set_option linter.unusedVariables false
set_option linter.unusedSimpArgs false

/-! ### date_Date: function 38 -/
mutual
def date_Date.j0 : Nat → Int → Int → Option (Int × Int × Int × Int)
  | 0, _, _ => none
  | k + 1, x0, x6 => (date_before.f (wrap64 (x6 + 1))).bind fun t115 => (if t115 < x0 then (date_Date.j1 k x0 (wrap64 (x6 + 1))) else (date_Date.j1 k x0 x6))
def date_Date.j1 : Nat → Int → Int → Option (Int × Int × Int × Int)
  | 0, _, _ => none
  | k + 1, x0, x6 => (date_before.f x6).bind fun t116 => (date_Date.l0 k x6 (wrap64 (x0 - t116)) 1)
def date_Date.l0 : Nat → Int → Int → Int → Option (Int × Int × Int × Int)
  | 0, _, _, _ => none
  | k + 1, x6, x7, x8 => (date_Len.f x6 x8).bind fun t117 => (if x7 > t117 then ((date_Len.f x6 x8).bind fun t118 => (date_Date.l0 k x6 (wrap64 (x7 - t118)) (wrap64 (x8 + 1)))) else (some (x6, x8, x7, 0)))
end
def date_Date.f (k : Nat) (a0 : Int) : Option (Int × Int × Int × Int) := (date_Right.f a0).bind fun t113 => (if t113 = true then ((date_before.f (wrap64 ((wrap64 (Int.tdiv (wrap64 ((wrap64 (a0 - 1)) * 400)) 146097)) + 1))).bind fun t114 => (if t114 ≥ a0 then (date_Date.j0 k a0 (wrap64 ((wrap64 ((wrap64 (Int.tdiv (wrap64 ((wrap64 (a0 - 1)) * 400)) 146097)) + 1)) - 1))) else (date_Date.j0 k a0 (wrap64 ((wrap64 (Int.tdiv (wrap64 ((wrap64 (a0 - 1)) * 400)) 146097)) + 1))))) else (some (0, 0, 0, 6)))
theorem date_Date.mono_l : ∀ k, (∀ y0 y1, LeO (date_Date.j0 k y0 y1) (date_Date.j0 (k + 1) y0 y1)) ∧ (∀ y0 y1, LeO (date_Date.j1 k y0 y1) (date_Date.j1 (k + 1) y0 y1)) ∧ (∀ y0 y1 y2, LeO (date_Date.l0 k y0 y1 y2) (date_Date.l0 (k + 1) y0 y1 y2))
  | 0 => ⟨fun _ _ r h => by simp [date_Date.j0] at h, fun _ _ r h => by simp [date_Date.j1] at h, fun _ _ _ r h => by simp [date_Date.l0] at h⟩
  | k + 1 => by
    obtain ⟨ih0, ih1, ih2⟩ := date_Date.mono_l k
    refine ⟨?_, ?_, ?_⟩
    · intro y0 y1
      unfold date_Date.j0
      repeat' first
      | (with_reducible exact ih0 _ _)
      | (with_reducible exact ih1 _ _)
      | (with_reducible exact ih2 _ _ _)
      | (with_reducible exact LeO.refl _)
      | (with_reducible exact LeO.none _)
      | (with_reducible refine LeO.ite ?_ ?_)
      | (with_reducible refine LeO.bind ?_ (fun _ => ?_))
      | exact ih0 _ _
      | exact ih1 _ _
      | exact ih2 _ _ _
      | exact LeO.none _
      | refine LeO.ite ?_ ?_
      | refine LeO.bind ?_ (fun _ => ?_)
    · intro y0 y1
      unfold date_Date.j1
      repeat' first
      | (with_reducible exact ih0 _ _)
      | (with_reducible exact ih1 _ _)
      | (with_reducible exact ih2 _ _ _)
      | (with_reducible exact LeO.refl _)
      | (with_reducible exact LeO.none _)
      | (with_reducible refine LeO.ite ?_ ?_)
      | (with_reducible refine LeO.bind ?_ (fun _ => ?_))
      | exact ih0 _ _
      | exact ih1 _ _
      | exact ih2 _ _ _
      | exact LeO.none _
      | refine LeO.ite ?_ ?_
      | refine LeO.bind ?_ (fun _ => ?_)
    · intro y0 y1 y2
      unfold date_Date.l0
      repeat' first
      | (with_reducible exact ih0 _ _)
      | (with_reducible exact ih1 _ _)
      | (with_reducible exact ih2 _ _ _)
      | (with_reducible exact LeO.refl _)
      | (with_reducible exact LeO.none _)
      | (with_reducible refine LeO.ite ?_ ?_)
      | (with_reducible refine LeO.bind ?_ (fun _ => ?_))
      | exact ih0 _ _
      | exact ih1 _ _
      | exact ih2 _ _ _
      | exact LeO.none _
      | refine LeO.ite ?_ ?_
      | refine LeO.bind ?_ (fun _ => ?_)
theorem date_Date.mono : ∀ a0 k, LeO (date_Date.f k a0) (date_Date.f (k + 1) a0) := by
  intro a0 k
  obtain ⟨ih0, ih1, ih2⟩ := date_Date.mono_l k
  unfold date_Date.f
  repeat' first
      | (with_reducible exact ih0 _ _)
      | (with_reducible exact ih1 _ _)
      | (with_reducible exact ih2 _ _ _)
      | (with_reducible exact LeO.refl _)
      | (with_reducible exact LeO.none _)
      | (with_reducible refine LeO.ite ?_ ?_)
      | (with_reducible refine LeO.bind ?_ (fun _ => ?_))
      | exact ih0 _ _
      | exact ih1 _ _
      | exact ih2 _ _ _
      | exact LeO.none _
      | refine LeO.ite ?_ ?_
      | refine LeO.bind ?_ (fun _ => ?_)
set_option maxHeartbeats 8000000 in
set_option maxRecDepth 100000 in
theorem date_Date.calls (k : Nat) (a0 : Int) (r1 : Int) (r2 : Int) (r3 : Int) (r4 : Int) (w : World) (h : date_Date.f k a0 = some (r1, r2, r3, r4)) :
    Calls Try.prog 38 #[.int .i64 a0] w fun e w' => e = .returned (.tuple #[.int .i64 r1, .int .i64 r2, .int .i64 r3, .int .i64 r4]) ∧ Below w.heap.size w w' := by
  have HB := Aside0.mk (Below.refl w.heap.size w)
  have H : ((date_Right.f a0).bind fun t113 => (if t113 = true then ((date_before.f (wrap64 ((wrap64 (Int.tdiv (wrap64 ((wrap64 (a0 - 1)) * 400)) 146097)) + 1))).bind fun t114 => (if t114 ≥ a0 then (date_Date.j0 k a0 (wrap64 ((wrap64 ((wrap64 (Int.tdiv (wrap64 ((wrap64 (a0 - 1)) * 400)) 146097)) + 1)) - 1))) else (date_Date.j0 k a0 (wrap64 ((wrap64 (Int.tdiv (wrap64 ((wrap64 (a0 - 1)) * 400)) 146097)) + 1))))) else (some (0, 0, 0, 6)))) = some (r1, r2, r3, r4) := h
  clear h
  replace H := Option.bind_eq_some_iff.mp H
  obtain ⟨t113, A20, H⟩ := H
  replace H : (if t113 = true then ((date_before.f (wrap64 ((wrap64 (Int.tdiv (wrap64 ((wrap64 (a0 - 1)) * 400)) 146097)) + 1))).bind fun t114 => (if t114 ≥ a0 then (date_Date.j0 k a0 (wrap64 ((wrap64 ((wrap64 (Int.tdiv (wrap64 ((wrap64 (a0 - 1)) * 400)) 146097)) + 1)) - 1))) else (date_Date.j0 k a0 (wrap64 ((wrap64 (Int.tdiv (wrap64 ((wrap64 (a0 - 1)) * 400)) 146097)) + 1))))) else (some (0, 0, 0, 6))) = some (r1, r2, r3, r4) := H
  have A2 := Aside0.mk A20
  clear A20
  by_cases c3 : t113 = true
  · subst c3
    have H1 : ((date_before.f (wrap64 ((wrap64 (Int.tdiv (wrap64 ((wrap64 (a0 - 1)) * 400)) 146097)) + 1))).bind fun t114 => (if t114 ≥ a0 then (date_Date.j0 k a0 (wrap64 ((wrap64 ((wrap64 (Int.tdiv (wrap64 ((wrap64 (a0 - 1)) * 400)) 146097)) + 1)) - 1))) else (date_Date.j0 k a0 (wrap64 ((wrap64 (Int.tdiv (wrap64 ((wrap64 (a0 - 1)) * 400)) 146097)) + 1))))) = some (r1, r2, r3, r4) := by rw [if_pos rfl] at H; exact H
    clear H
    have H := H1
    clear H1
    replace H := Option.bind_eq_some_iff.mp H
    obtain ⟨t114, A40, H⟩ := H
    replace H : (if t114 ≥ a0 then (date_Date.j0 k a0 (wrap64 ((wrap64 ((wrap64 (Int.tdiv (wrap64 ((wrap64 (a0 - 1)) * 400)) 146097)) + 1)) - 1))) else (date_Date.j0 k a0 (wrap64 ((wrap64 (Int.tdiv (wrap64 ((wrap64 (a0 - 1)) * 400)) 146097)) + 1)))) = some (r1, r2, r3, r4) := H
    have A4 := Aside0.mk A40
    clear A40
    have HC5 := Aside0.mk H
    clear H
    go_enter Try.func38, Try.ntmps38
    go_upto_if 20 with (first | ((with_reducible refine gate_callee (f := 42) rfl ?_); refine goesL_ (some 10) rfl rfl Try.func42 (by kernel_rfl) rfl #[.int .i64 a0] rfl (by (try simp only [List.map_toArray, List.map_cons, List.map_nil]); first | done | rfl | (simp only [List.length_drop, List.length_take]; rfl)) ?_; (with_reducible refine (date_Right.calls a0 true _ A2.out).mono ?_); rintro e w' ⟨rfl, ⟨nd, rfl⟩⟩; refine ⟨_, rfl, ?_⟩) | ((with_reducible refine gate_callee (f := 45) rfl ?_); refine goesL_ (some 18) rfl rfl Try.func45 (by kernel_rfl) rfl #[.int .i64 (wrap64 ((wrap64 (Int.tdiv (wrap64 ((wrap64 (a0 - 1)) * 400)) 146097)) + 1))] rfl (by (try simp only [List.map_toArray, List.map_cons, List.map_nil]); first | done | rfl | (simp only [List.length_drop, List.length_take]; rfl)) ?_; (with_reducible refine (date_before.calls (wrap64 ((wrap64 (Int.tdiv (wrap64 ((wrap64 (a0 - 1)) * 400)) 146097)) + 1)) t114 _ A4.out).mono ?_); rintro e w' ⟨rfl, ⟨nd, rfl⟩⟩; refine ⟨_, rfl, ?_⟩))
    (try simp only [Act.put, List.setIfInBounds_toArray, List.set_cons_zero, List.set_cons_succ])
    go_cut [6] (fun v6 wc => ∃ (kq : Nat) (x6_4 : Int), v6 = .int .i64 x6_4 ∧ Aside0 (date_Date.j0 kq a0 x6_4 = some (r1, r2, r3, r4)) ∧ Aside0 (kq ≤ k) ∧ Aside0 (Below w.heap.size w wc))
    case first =>
      have H := HC5.out
      clear HC5
      by_cases c6 : t114 ≥ a0
      · rw [if_pos c6] at H
        have c6b0 : decide (a0 ≤ t114) = true := decide_eq_true c6
        clear c6
        (first | rw [c6b0] | (simp only [i64_w, i32_w]; rw [c6b0]) | skip)
        have H' := Aside0.mk H
        clear H
        go_wp2
        go_meet
        case rel => exact ⟨_, (wrap64 ((wrap64 ((wrap64 (Int.tdiv (wrap64 ((wrap64 (a0 - 1)) * 400)) 146097)) + 1)) - 1)), (by first | rfl | (simp; done) | (simp [*]; done)), H', ⟨by first | omega | exact Nat.le_refl _⟩, ⟨by repeat (first | (with_reducible first | exact HB.out | apply below_alloc | apply pw_below_drewN | apply below_drew1) | exact HB.out)⟩⟩
      · rw [if_neg c6] at H
        have c6b0 : decide (a0 ≤ t114) = false := decide_eq_false c6
        clear c6
        (first | rw [c6b0] | (simp only [i64_w, i32_w]; rw [c6b0]) | skip)
        have H' := Aside0.mk H
        clear H
        go_wp2
        go_meet
        case rel => exact ⟨_, (wrap64 ((wrap64 (Int.tdiv (wrap64 ((wrap64 (a0 - 1)) * 400)) 146097)) + 1)), (by first | rfl | (simp; done) | (simp [*]; done)), H', ⟨by first | omega | exact Nat.le_refl _⟩, ⟨by repeat (first | (with_reducible first | exact HB.out | apply below_alloc | apply pw_below_drewN | apply below_drew1) | exact HB.out)⟩⟩
    case rest =>
      clear HC5
      try clear p2
      try clear c3
      try clear c4
      try clear c6
      try clear c6b0
      try clear p6
      obtain ⟨kq, x6_4, rfl, HA, HJ4, HB⟩ := hcut
      cases kq with
      | zero => exact absurd HA.out (by simp [date_Date.j0])
      | succ kj4 =>
        have H := HA.out
        clear HA
        simp only [date_Date.j0] at H
        replace H := Option.bind_eq_some_iff.mp H
        obtain ⟨t115, A70, H⟩ := H
        replace H : (if t115 < a0 then (date_Date.j1 kj4 a0 (wrap64 (x6_4 + 1))) else (date_Date.j1 kj4 a0 x6_4)) = some (r1, r2, r3, r4) := H
        have A7 := Aside0.mk A70
        clear A70
        have HC8 := Aside0.mk H
        clear H
        go_upto_if 27 with (first | ((with_reducible refine gate_callee (f := 45) rfl ?_); refine goesL_ (some 25) rfl rfl Try.func45 (by kernel_rfl) rfl #[.int .i64 (wrap64 (x6_4 + 1))] rfl (by (try simp only [List.map_toArray, List.map_cons, List.map_nil]); first | done | rfl | (simp only [List.length_drop, List.length_take]; rfl)) ?_; (with_reducible refine (date_before.calls (wrap64 (x6_4 + 1)) t115 _ A7.out).mono ?_); rintro e w' ⟨rfl, ⟨nd, rfl⟩⟩; refine ⟨_, rfl, ?_⟩))
        (try simp only [Act.put, List.setIfInBounds_toArray, List.set_cons_zero, List.set_cons_succ])
        go_cut [6] (fun v6 wc => ∃ (kq : Nat) (x6_7 : Int), v6 = .int .i64 x6_7 ∧ Aside0 (date_Date.j1 kq a0 x6_7 = some (r1, r2, r3, r4)) ∧ Aside0 (kq ≤ kj4) ∧ Aside0 (Below w.heap.size w wc))
        case first =>
          have H := HC8.out
          clear HC8
          by_cases c9 : t115 < a0
          · rw [if_pos c9] at H
            have c9b0 : decide (t115 < a0) = true := decide_eq_true c9
            clear c9
            (first | rw [c9b0] | (simp only [i64_w, i32_w]; rw [c9b0]) | skip)
            have H' := Aside0.mk H
            clear H
            go_wp2
            go_meet
            case rel => exact ⟨_, (wrap64 (x6_4 + 1)), (by first | rfl | (simp; done) | (simp [*]; done)), H', ⟨by have := HJ4.out; first | omega | exact Nat.le_refl _⟩, ⟨by repeat (first | (with_reducible first | exact HB.out | apply below_alloc | apply pw_below_drewN | apply below_drew1) | exact HB.out)⟩⟩
          · rw [if_neg c9] at H
            have c9b0 : decide (t115 < a0) = false := decide_eq_false c9
            clear c9
            (first | rw [c9b0] | (simp only [i64_w, i32_w]; rw [c9b0]) | skip)
            have H' := Aside0.mk H
            clear H
            go_wp2
            go_meet
            case rel => exact ⟨_, (x6_4), (by first | rfl | (simp; done) | (simp [*]; done)), H', ⟨by have := HJ4.out; first | omega | exact Nat.le_refl _⟩, ⟨by repeat (first | (with_reducible first | exact HB.out | apply below_alloc | apply pw_below_drewN | apply below_drew1) | exact HB.out)⟩⟩
        case rest =>
          clear HC8
          try clear p2
          try clear c3
          try clear c4
          try clear c6
          try clear c6b0
          try clear p6
          try clear c9
          try clear c9b0
          try clear p2
          try clear p6
          obtain ⟨kq, x6_7, rfl, HA, HJ7, HB⟩ := hcut
          cases kq with
          | zero => exact absurd HA.out (by simp [date_Date.j1])
          | succ kj7 =>
            have H := HA.out
            clear HA
            simp only [date_Date.j1] at H
            replace H := Option.bind_eq_some_iff.mp H
            obtain ⟨t116, A100, H⟩ := H
            replace H : (date_Date.l0 kj7 x6_7 (wrap64 (a0 - t116)) 1) = some (r1, r2, r3, r4) := H
            have A10 := Aside0.mk A100
            clear A100
            have H' := Aside0.mk H
            clear H
            go_wp2_with (first | ((with_reducible refine gate_callee (f := 45) rfl ?_); refine goesL_ (some 32) rfl rfl Try.func45 (by kernel_rfl) rfl #[.int .i64 x6_7] rfl (by (try simp only [List.map_toArray, List.map_cons, List.map_nil]); first | done | rfl | (simp only [List.length_drop, List.length_take]; rfl)) ?_; (with_reducible refine (date_before.calls x6_7 t116 _ A10.out).mono ?_); rintro e w' ⟨rfl, ⟨nd, rfl⟩⟩; refine ⟨_, rfl, ?_⟩))
            go_loopg [7, 8] kj7 (fun kq v7 v8 w' => ∃ (x7_3 : Int) (x8_3 : Int), v7 = .int .i64 x7_3 ∧ v8 = .int .i64 x8_3 ∧ Aside0 (date_Date.l0 kq x6_7 x7_3 x8_3 = some (r1, r2, r3, r4)) ∧ Aside0 (kq ≤ kj7) ∧ Aside0 (Below w.heap.size w w'))
            case atStart => exact ⟨(wrap64 (a0 - t116)), (1), (by first | rfl | (simp; done) | (simp [*]; done)), (by first | rfl | (simp; done) | (simp [*]; done)), H', ⟨Nat.le_refl _⟩, ⟨by repeat (first | (with_reducible first | exact HB.out | apply below_alloc | apply pw_below_drewN | apply below_drew1) | exact HB.out)⟩⟩
            case round =>
              clear H'
              try clear p2
              try clear c3
              try clear c4
              try clear c6
              try clear c6b0
              try clear p6
              try clear c9
              try clear c9b0
              try clear p2
              try clear p6
              obtain ⟨x7_3, x8_3, rfl, rfl, HA, HK3, HB⟩ := hrel
              cases gk with
              | zero => exact absurd HA.out (by simp [date_Date.l0])
              | succ k3 =>
                have H := HA.out
                clear HA
                simp only [date_Date.l0] at H
                replace H := Option.bind_eq_some_iff.mp H
                obtain ⟨t117, A110, H⟩ := H
                replace H : (if x7_3 > t117 then ((date_Len.f x6_7 x8_3).bind fun t118 => (date_Date.l0 k3 x6_7 (wrap64 (x7_3 - t118)) (wrap64 (x8_3 + 1)))) else (some (x6_7, x8_3, x7_3, 0))) = some (r1, r2, r3, r4) := H
                have A11 := Aside0.mk A110
                clear A110
                by_cases c12 : x7_3 > t117
                · rw [if_pos c12] at H
                  have c12b0 : decide (t117 < x7_3) = true := decide_eq_true c12
                  clear c12
                  replace H := Option.bind_eq_some_iff.mp H
                  obtain ⟨t118, A130, H⟩ := H
                  replace H : (date_Date.l0 k3 x6_7 (wrap64 (x7_3 - t118)) (wrap64 (x8_3 + 1))) = some (r1, r2, r3, r4) := H
                  have A13 := Aside0.mk A130
                  clear A130
                  have H' := Aside0.mk H
                  clear H
                  go_wp2_with (first | ((with_reducible refine gate_callee (f := 31) rfl ?_); refine goesL_ (some 37) rfl rfl Try.func31 (by kernel_rfl) rfl #[.int .i64 x6_7, .int .i64 x8_3] rfl (by (try simp only [List.map_toArray, List.map_cons, List.map_nil]); first | done | rfl | (simp only [List.length_drop, List.length_take]; rfl)) ?_; (with_reducible refine (date_Len.calls x6_7 x8_3 t117 _ A11.out).mono ?_); rintro e w14 ⟨rfl, hb⟩; refine ⟨_, rfl, ?_⟩; have n0_ := Aside0.mk (below_step (by repeat (first | (with_reducible first | exact HB.out | apply below_alloc | apply pw_below_drewN | apply below_drew1) | exact HB.out)) hb); clear HB; have HB := n0_; clear n0_; (try clear hb); (try clear hb2); (try clear hk); (try clear hi)) | ((with_reducible refine gate_callee (f := 31) rfl ?_); refine goesL_ (some 44) rfl rfl Try.func31 (by kernel_rfl) rfl #[.int .i64 x6_7, .int .i64 x8_3] rfl (by (try simp only [List.map_toArray, List.map_cons, List.map_nil]); first | done | rfl | (simp only [List.length_drop, List.length_take]; rfl)) ?_; (with_reducible refine (date_Len.calls x6_7 x8_3 t118 _ A13.out).mono ?_); rintro e w15 ⟨rfl, hb⟩; refine ⟨_, rfl, ?_⟩; have n0_ := Aside0.mk (below_step (by repeat (first | (with_reducible first | exact HB.out | apply below_alloc | apply pw_below_drewN | apply below_drew1) | exact HB.out)) hb); clear HB; have HB := n0_; clear n0_; (try clear hb); (try clear hb2); (try clear hk); (try clear hi)))
                  go_roundg k3
                  case measure => have := HJ4.out; have := HJ7.out; have := HK3.out; omega
                  case rel => exact ⟨(wrap64 (x7_3 - t118)), (wrap64 (x8_3 + 1)), (by first | rfl | (simp; done) | (simp [*]; done)), (by first | rfl | (simp; done) | (simp [*]; done)), H', ⟨by have := HJ4.out; have := HJ7.out; have := HK3.out; omega⟩, ⟨by repeat (first | (with_reducible first | exact HB.out | apply below_alloc | apply pw_below_drewN | apply below_drew1) | exact HB.out)⟩⟩
                · rw [if_neg c12] at H
                  have c12b0 : decide (t117 < x7_3) = false := decide_eq_false c12
                  clear c12
                  simp only [Option.some.injEq, Prod.mk.injEq] at H
                  obtain ⟨rfl, rfl, rfl, rfl⟩ := H
                  go_wp2_with (first | ((with_reducible refine gate_callee (f := 31) rfl ?_); refine goesL_ (some 37) rfl rfl Try.func31 (by kernel_rfl) rfl #[.int .i64 x6_7, .int .i64 x8_3] rfl (by (try simp only [List.map_toArray, List.map_cons, List.map_nil]); first | done | rfl | (simp only [List.length_drop, List.length_take]; rfl)) ?_; (with_reducible refine (date_Len.calls x6_7 x8_3 t117 _ A11.out).mono ?_); rintro e w16 ⟨rfl, hb⟩; refine ⟨_, rfl, ?_⟩; have n0_ := Aside0.mk (below_step (by repeat (first | (with_reducible first | exact HB.out | apply below_alloc | apply pw_below_drewN | apply below_drew1) | exact HB.out)) hb); clear HB; have HB := n0_; clear n0_; (try clear hb); (try clear hb2); (try clear hk); (try clear hi)))
                  refine bodyPost_ret (results_list (rs := [.tmp 2, .tmp 3, .tmp 4, .tmp 5]) rfl (by simp) (.tmp (.tmp (.tmp (.tmp .nil))))) rfl ?_
                  exact ⟨by first | rfl | (simp [errW_none, errW_some] <;> rfl) | (simp [*, errW_none, errW_some] <;> rfl), by repeat (first | (with_reducible first | exact HB.out | apply below_alloc | apply pw_below_drewN | apply below_drew1) | exact HB.out)⟩
  · replace c3 := Bool.eq_false_iff.mpr c3
    subst c3
    have H1 : (some (0, 0, 0, 6)) = some (r1, r2, r3, r4) := by rw [if_neg (show ¬ (false = true) by decide)] at H; exact H
    clear H
    have H := H1
    clear H1
    simp only [Option.some.injEq, Prod.mk.injEq] at H
    obtain ⟨rfl, rfl, rfl, rfl⟩ := H
    go_enter Try.func38, Try.ntmps38
    go_wp2_with (first | ((with_reducible refine gate_callee (f := 42) rfl ?_); refine goesL_ (some 10) rfl rfl Try.func42 (by kernel_rfl) rfl #[.int .i64 a0] rfl (by (try simp only [List.map_toArray, List.map_cons, List.map_nil]); first | done | rfl | (simp only [List.length_drop, List.length_take]; rfl)) ?_; (with_reducible refine (date_Right.calls a0 false _ A2.out).mono ?_); rintro e w' ⟨rfl, ⟨nd, rfl⟩⟩; refine ⟨_, rfl, ?_⟩))
    refine bodyPost_ret (results_list (rs := [.tmp 2, .tmp 3, .tmp 4, .tmp 5]) rfl (by simp) (.tmp (.tmp (.tmp (.tmp .nil))))) rfl ?_
    exact ⟨by first | rfl | (simp [errW_none, errW_some] <;> rfl) | (simp [*, errW_none, errW_some] <;> rfl), by repeat (first | (with_reducible first | exact HB.out | apply below_alloc | apply pw_below_drewN | apply below_drew1) | exact HB.out)⟩

/-! ### week_Week: function 15 -/
def week_Week.f (k : Nat) (a0 : Int) : Option (Int × Int × Int) := (date_Weekday.f a0).bind fun bt119 => (if bt119.2 = 0 then ((date_Date.f k (wrap64 ((wrap64 (a0 - bt119.1)) + 3))).bind fun bt121 => (if bt121.2.2.2 = 0 then ((date_Days.f k bt121.1 1 1).bind fun bt125 => (some (bt121.1, wrap64 ((wrap64 (Int.tdiv (wrap64 ((wrap64 ((wrap64 (a0 - bt119.1)) + 3)) - bt125.1)) 7)) + 1), 0))) else ((date_Days.f k 9999 1 1).bind fun bt127 => (some (9999, wrap64 ((wrap64 (Int.tdiv (wrap64 ((wrap64 ((wrap64 (a0 - bt119.1)) + 3)) - bt127.1)) 7)) + 1), 0))))) else (some (0, 0, bt119.2)))
theorem week_Week.mono : ∀ a0 k, LeO (week_Week.f k a0) (week_Week.f (k + 1) a0) := by
  intro a0 k
  unfold week_Week.f
  repeat' first
      | (with_reducible exact date_Date.mono _ _)
      | (with_reducible exact date_Days.mono _ _ _ _)
      | (with_reducible exact LeO.refl _)
      | (with_reducible exact LeO.none _)
      | (with_reducible refine LeO.ite ?_ ?_)
      | (with_reducible refine LeO.bind ?_ (fun _ => ?_))
      | exact date_Date.mono _ _
      | exact date_Days.mono _ _ _ _
      | exact LeO.none _
      | refine LeO.ite ?_ ?_
      | refine LeO.bind ?_ (fun _ => ?_)
set_option maxHeartbeats 8000000 in
set_option maxRecDepth 100000 in
theorem week_Week.calls (k : Nat) (a0 : Int) (r1 : Int) (r2 : Int) (r3 : Int) (w : World) (h : week_Week.f k a0 = some (r1, r2, r3)) :
    Calls Try.prog 15 #[.int .i64 a0] w fun e w' => e = .returned (.tuple #[.int .i64 r1, .int .i64 r2, .int .i64 r3]) ∧ Below w.heap.size w w' := by
  have HB := Aside0.mk (Below.refl w.heap.size w)
  have H : ((date_Weekday.f a0).bind fun bt119 => (if bt119.2 = 0 then ((date_Date.f k (wrap64 ((wrap64 (a0 - bt119.1)) + 3))).bind fun bt121 => (if bt121.2.2.2 = 0 then ((date_Days.f k bt121.1 1 1).bind fun bt125 => (some (bt121.1, wrap64 ((wrap64 (Int.tdiv (wrap64 ((wrap64 ((wrap64 (a0 - bt119.1)) + 3)) - bt125.1)) 7)) + 1), 0))) else ((date_Days.f k 9999 1 1).bind fun bt127 => (some (9999, wrap64 ((wrap64 (Int.tdiv (wrap64 ((wrap64 ((wrap64 (a0 - bt119.1)) + 3)) - bt127.1)) 7)) + 1), 0))))) else (some (0, 0, bt119.2)))) = some (r1, r2, r3) := h
  clear h
  replace H := Option.bind_eq_some_iff.mp H
  obtain ⟨⟨t119, t120⟩, A20, H⟩ := H
  replace H : (if t120 = 0 then ((date_Date.f k (wrap64 ((wrap64 (a0 - t119)) + 3))).bind fun bt121 => (if bt121.2.2.2 = 0 then ((date_Days.f k bt121.1 1 1).bind fun bt125 => (some (bt121.1, wrap64 ((wrap64 (Int.tdiv (wrap64 ((wrap64 ((wrap64 (a0 - t119)) + 3)) - bt125.1)) 7)) + 1), 0))) else ((date_Days.f k 9999 1 1).bind fun bt127 => (some (9999, wrap64 ((wrap64 (Int.tdiv (wrap64 ((wrap64 ((wrap64 (a0 - t119)) + 3)) - bt127.1)) 7)) + 1), 0))))) else (some (0, 0, t120))) = some (r1, r2, r3) := H
  have A2 := Aside0.mk A20
  clear A20
  by_cases c3 : t120 = 0
  · rw [if_pos c3] at H
    have c3b0 : (t120 == 0) = true := beq_iff_eq.mpr c3
    have c3b1 : (t120 != 0) = false := bne_eq_false_iff_eq.mpr c3
    clear c3
    replace H := Option.bind_eq_some_iff.mp H
    obtain ⟨⟨t121, t122, t123, t124⟩, A40, H⟩ := H
    replace H : (if t124 = 0 then ((date_Days.f k t121 1 1).bind fun bt125 => (some (t121, wrap64 ((wrap64 (Int.tdiv (wrap64 ((wrap64 ((wrap64 (a0 - t119)) + 3)) - bt125.1)) 7)) + 1), 0))) else ((date_Days.f k 9999 1 1).bind fun bt127 => (some (9999, wrap64 ((wrap64 (Int.tdiv (wrap64 ((wrap64 ((wrap64 (a0 - t119)) + 3)) - bt127.1)) 7)) + 1), 0)))) = some (r1, r2, r3) := H
    have A4 := Aside0.mk A40
    clear A40
    by_cases c5 : t124 = 0
    · rw [if_pos c5] at H
      have c5b0 : (t124 == 0) = true := beq_iff_eq.mpr c5
      have c5b1 : (t124 != 0) = false := bne_eq_false_iff_eq.mpr c5
      clear c5
      replace H := Option.bind_eq_some_iff.mp H
      obtain ⟨⟨t125, t126⟩, A60, H⟩ := H
      replace H : (some (t121, wrap64 ((wrap64 (Int.tdiv (wrap64 ((wrap64 ((wrap64 (a0 - t119)) + 3)) - t125)) 7)) + 1), 0)) = some (r1, r2, r3) := H
      have A6 := Aside0.mk A60
      clear A60
      simp only [Option.some.injEq, Prod.mk.injEq] at H
      obtain ⟨rfl, rfl, rfl⟩ := H
      go_enter Try.func15, Try.ntmps15
      go_wp2_with (first | ((with_reducible refine gate_callee (f := 32) rfl ?_); refine goesL_ (some 15) rfl rfl Try.func32 (by kernel_rfl) rfl #[.int .i64 a0] rfl (by (try simp only [List.map_toArray, List.map_cons, List.map_nil]); first | done | rfl | (simp only [List.length_drop, List.length_take]; rfl)) ?_; (with_reducible refine (date_Weekday.calls a0 t119 t120 _ A2.out).mono ?_); rintro e w' ⟨rfl, ⟨nd, rfl⟩⟩; refine ⟨_, rfl, ?_⟩) | ((with_reducible refine gate_callee (f := 38) rfl ?_); refine goesL_ (some 27) rfl rfl Try.func38 (by kernel_rfl) rfl #[.int .i64 (wrap64 ((wrap64 (a0 - t119)) + 3))] rfl (by (try simp only [List.map_toArray, List.map_cons, List.map_nil]); first | done | rfl | (simp only [List.length_drop, List.length_take]; rfl)) ?_; (with_reducible refine (date_Date.calls k (wrap64 ((wrap64 (a0 - t119)) + 3)) t121 t122 t123 t124 _ A4.out).mono ?_); rintro e w7 ⟨rfl, hb⟩; refine ⟨_, rfl, ?_⟩; have n0_ := Aside0.mk (below_step (by repeat (first | (with_reducible first | exact HB.out | apply below_alloc | apply pw_below_drewN | apply below_drew1) | exact HB.out)) hb); clear HB; have HB := n0_; clear n0_; (try clear hb); (try clear hb2); (try clear hk); (try clear hi)) | ((with_reducible refine gate_callee (f := 30) rfl ?_); refine goesL_ (some 36) rfl rfl Try.func30 (by kernel_rfl) rfl #[.int .i64 t121, .int .i64 1, .int .i64 1] rfl (by (try simp only [List.map_toArray, List.map_cons, List.map_nil]); first | done | rfl | (simp only [List.length_drop, List.length_take]; rfl)) ?_; (with_reducible refine (date_Days.calls k t121 1 1 t125 t126 _ A6.out).mono ?_); rintro e w8 ⟨rfl, hb⟩; refine ⟨_, rfl, ?_⟩; have n0_ := Aside0.mk (below_step (by repeat (first | (with_reducible first | exact HB.out | apply below_alloc | apply pw_below_drewN | apply below_drew1) | exact HB.out)) hb); clear HB; have HB := n0_; clear n0_; (try clear hb); (try clear hb2); (try clear hk); (try clear hi)))
      go_ret3
      exact ⟨by first | rfl | (simp [errW_none, errW_some] <;> rfl) | (simp [*, errW_none, errW_some] <;> rfl), by repeat (first | (with_reducible first | exact HB.out | apply below_alloc | apply pw_below_drewN | apply below_drew1) | exact HB.out)⟩
    · rw [if_neg c5] at H
      have c5b0 : (t124 == 0) = false := beq_eq_false_iff_ne.mpr c5
      have c5b1 : (t124 != 0) = true := bne_iff_ne.mpr c5
      replace H := Option.bind_eq_some_iff.mp H
      obtain ⟨⟨t127, t128⟩, A90, H⟩ := H
      replace H : (some (9999, wrap64 ((wrap64 (Int.tdiv (wrap64 ((wrap64 ((wrap64 (a0 - t119)) + 3)) - t127)) 7)) + 1), 0)) = some (r1, r2, r3) := H
      have A9 := Aside0.mk A90
      clear A90
      simp only [Option.some.injEq, Prod.mk.injEq] at H
      obtain ⟨rfl, rfl, rfl⟩ := H
      go_enter Try.func15, Try.ntmps15
      go_wp2_with (first | ((with_reducible refine gate_callee (f := 32) rfl ?_); refine goesL_ (some 15) rfl rfl Try.func32 (by kernel_rfl) rfl #[.int .i64 a0] rfl (by (try simp only [List.map_toArray, List.map_cons, List.map_nil]); first | done | rfl | (simp only [List.length_drop, List.length_take]; rfl)) ?_; (with_reducible refine (date_Weekday.calls a0 t119 t120 _ A2.out).mono ?_); rintro e w' ⟨rfl, ⟨nd, rfl⟩⟩; refine ⟨_, rfl, ?_⟩) | ((with_reducible refine gate_callee (f := 38) rfl ?_); refine goesL_ (some 27) rfl rfl Try.func38 (by kernel_rfl) rfl #[.int .i64 (wrap64 ((wrap64 (a0 - t119)) + 3))] rfl (by (try simp only [List.map_toArray, List.map_cons, List.map_nil]); first | done | rfl | (simp only [List.length_drop, List.length_take]; rfl)) ?_; (with_reducible refine (date_Date.calls k (wrap64 ((wrap64 (a0 - t119)) + 3)) t121 t122 t123 t124 _ A4.out).mono ?_); rintro e w10 ⟨rfl, hb⟩; refine ⟨_, rfl, ?_⟩; have n0_ := Aside0.mk (below_step (by repeat (first | (with_reducible first | exact HB.out | apply below_alloc | apply pw_below_drewN | apply below_drew1) | exact HB.out)) hb); clear HB; have HB := n0_; clear n0_; (try clear hb); (try clear hb2); (try clear hk); (try clear hi)) | ((with_reducible refine gate_callee (f := 30) rfl ?_); refine goesL_ (some 36) rfl rfl Try.func30 (by kernel_rfl) rfl #[.int .i64 9999, .int .i64 1, .int .i64 1] rfl (by (try simp only [List.map_toArray, List.map_cons, List.map_nil]); first | done | rfl | (simp only [List.length_drop, List.length_take]; rfl)) ?_; (with_reducible refine (date_Days.calls k 9999 1 1 t127 t128 _ A9.out).mono ?_); rintro e w11 ⟨rfl, hb⟩; refine ⟨_, rfl, ?_⟩; have n0_ := Aside0.mk (below_step (by repeat (first | (with_reducible first | exact HB.out | apply below_alloc | apply pw_below_drewN | apply below_drew1) | exact HB.out)) hb); clear HB; have HB := n0_; clear n0_; (try clear hb); (try clear hb2); (try clear hk); (try clear hi)))
      go_ret3
      exact ⟨by first | rfl | (simp [errW_none, errW_some] <;> rfl) | (simp [*, errW_none, errW_some] <;> rfl), by repeat (first | (with_reducible first | exact HB.out | apply below_alloc | apply pw_below_drewN | apply below_drew1) | exact HB.out)⟩
  · rw [if_neg c3] at H
    have c3b0 : (t120 == 0) = false := beq_eq_false_iff_ne.mpr c3
    have c3b1 : (t120 != 0) = true := bne_iff_ne.mpr c3
    simp only [Option.some.injEq, Prod.mk.injEq] at H
    obtain ⟨rfl, rfl, rfl⟩ := H
    go_enter Try.func15, Try.ntmps15
    go_wp2_with (first | ((with_reducible refine gate_callee (f := 32) rfl ?_); refine goesL_ (some 15) rfl rfl Try.func32 (by kernel_rfl) rfl #[.int .i64 a0] rfl (by (try simp only [List.map_toArray, List.map_cons, List.map_nil]); first | done | rfl | (simp only [List.length_drop, List.length_take]; rfl)) ?_; (with_reducible refine (date_Weekday.calls a0 t119 t120 _ A2.out).mono ?_); rintro e w' ⟨rfl, ⟨nd, rfl⟩⟩; refine ⟨_, rfl, ?_⟩))
    go_ret3
    exact ⟨by first | rfl | (simp [errW_none, errW_some] <;> rfl) | (simp [*, errW_none, errW_some] <;> rfl), by repeat (first | (with_reducible first | exact HB.out | apply below_alloc | apply pw_below_drewN | apply below_drew1) | exact HB.out)⟩

/-! ### week_Read: function 18 -/
section
attribute [local go_sem] World.iter
def week_Read.bad (a0 : ByteArray) (i : Int) : Prop := bt a0 i < 48 ∨ 57 < bt a0 i
instance (a0 : ByteArray) (i : Int) : Decidable (week_Read.bad a0 i) := inferInstanceAs (Decidable (bt a0 i < 48 ∨ 57 < bt a0 i))
def week_Read.two (a0 : ByteArray) (i : Int) : Int := (bt a0 i - 48) * 10 + (bt a0 (i + 1) - 48)
def week_Read.f (a0 : ByteArray) : Option (Int × Int) := if (a0.size : Int) = 5 then (if bt a0 2 = 58 then (if week_Read.bad a0 0 then some (0, 20) else if week_Read.bad a0 1 then some (0, 20) else if week_Read.bad a0 3 then some (0, 20) else if week_Read.bad a0 4 then some (0, 20) else if week_Read.two a0 0 > 23 then some (0, 6) else if week_Read.two a0 3 > 59 then some (0, 6) else some (week_Read.two a0 0 * 60 + week_Read.two a0 3, 0)) else some (0, 20)) else some (0, 20)
theorem week_Read.nx {W : World} {k : Nat} {s : ByteArray} {p : Nat} (hk : W.heap[k]? = some (.stringIter s p)) (h : p < s.size) {v q : Int} (hq : (p : Int) = q) (hv : ((s[p]'h).toNat : Int) = v) (h128 : v < 128) {W' : World} (hW : Go.World.iterAt W k s (p + 1) = W') (ty : TypeId) :
    (Instr.next (.pointer (some ⟨k, 0, none⟩)) true ty).run Try.prog W = .ok (.tuple #[.bool true, .int .i64 q, .int .i32 v]) W' := by
  rw [Go.Lib.run_next_ascii_at W k s p ty hk h (by omega), hq, hv, hW]
theorem week_Read.nxAny {W : World} {k : Nat} {s : ByteArray} {p : Nat} (hk : W.heap[k]? = some (.stringIter s p)) (h : p < s.size) {q : Int} (hq : (p : Int) = q) (ty : TypeId) :
    (Instr.next (.pointer (some ⟨k, 0, none⟩)) true ty).run Try.prog W = .ok (.tuple #[.bool true, .int .i64 q, .int .i32 (Utf8.decode s p).1]) (Go.World.iterAt W k s (p + (Utf8.decode s p).2)) := by
  rw [Go.Lib.run_next_any_at W k s p ty hk h, hq]
theorem week_Read.at_d (w : World) (c : Obj) (s : ByteArray) (p q : Nat) : (World.iterAt ((w.alloc c).alloc (.stringIter s p)) (w.heap.size + 1) s q) = (w.alloc c).alloc (.stringIter s q) := by
  simp only [World.iterAt, World.alloc]
  congr 1
  apply Array.ext'
  simp [Array.setIfInBounds, Array.toList_push]
theorem week_Read.hp (w : World) (c o : Obj) : ((w.alloc c).alloc o).heap[w.heap.size + 1]? = some o := by
  rw [show w.heap.size + 1 = (w.alloc c).heap.size by simp]
  exact Array.getElem?_push_size
theorem week_Read.bel {w W : World} (h : Below w.heap.size w W) (s : ByteArray) (q : Nat) {k : Nat} (hk : w.heap.size ≤ k) : Below w.heap.size w (World.iterAt W k s q) := Go.Lib.below_iterAt h hk s q
set_option maxHeartbeats 4000000 in
theorem week_Read.bad0 (a0 : ByteArray) (r1 r2 : Int) (w : World) (s5 : a0.size = 5) (h2 : bt a0 2 = 58)  (b : bt a0 0 < 48 ∨ 57 < bt a0 0) (h : some ((0 : Int), (20 : Int)) = some (r1, r2)) :
    Calls Try.prog 18 #[.string a0] w fun e w' => e = .returned (.tuple #[.int .i64 r1, .int .i64 r2]) ∧ Below w.heap.size w w' := by
  have hu := Try.underlying46
  have p5 : ((a0.size : Int) == 5) = true := beq_iff_eq.mpr (by omega)
  have p5' : ((a0.size : Int) != 5) = false := bne_eq_false_iff_eq.mpr (by omega)
  have x2 : ∀ h : 2 < a0.size, ((a0[2]'h).toNat : Int) = 58 := fun h => (bt_at a0 2 h).trans h2
  have x0 : ∀ h : 0 < a0.size, ((a0[0]'h).toNat : Int) = bt a0 0 := fun h => bt_at a0 0 h
  have n0 : ∀ c ty, (Instr.next (.pointer (some ⟨w.heap.size + 1, 0, none⟩)) true ty).run Try.prog ((w.alloc c).alloc (.stringIter a0 0)) = .ok (.tuple #[.bool true, .int .i64 0, .int .i32 (Utf8.decode a0 0).1]) (World.iterAt ((w.alloc c).alloc (.stringIter a0 0)) (w.heap.size + 1) a0 (0 + (Utf8.decode a0 0).2)) :=
    fun c ty => week_Read.nxAny (W := ((w.alloc c).alloc (.stringIter a0 0))) (s := a0) (p := 0) (week_Read.hp w c _) (by omega) rfl ty
  clear h2
  generalize bt a0 0 = v0 at *
  simp only [Option.some.injEq, Prod.mk.injEq] at h
  obtain ⟨rfl, rfl⟩ := h
  rcases b with b | b
  · have q1 : decide (v0 < 48) = true := decide_eq_true b
    clear b
    go_enter Try.func18, Try.ntmps18
    go_wp2
    refine wp_loop_rounds 6 ?_
    rw [rounds_succ]; go_wp2
    go_ret2
    exact ⟨rfl, by repeat (first | exact Below.refl _ _ | refine week_Read.bel ?_ _ _ (Nat.le_succ _) | apply below_alloc | apply pw_below_drewN | apply below_drew1)⟩
  · have q1 : decide (v0 < 48) = false := decide_eq_false (by omega)
    have q2 : decide (57 < v0) = true := decide_eq_true b
    clear b
    go_enter Try.func18, Try.ntmps18
    go_wp2
    refine wp_loop_rounds 6 ?_
    rw [rounds_succ]; go_wp2
    go_ret2
    exact ⟨rfl, by repeat (first | exact Below.refl _ _ | refine week_Read.bel ?_ _ _ (Nat.le_succ _) | apply below_alloc | apply pw_below_drewN | apply below_drew1)⟩
set_option maxHeartbeats 4000000 in
theorem week_Read.bad1 (a0 : ByteArray) (r1 r2 : Int) (w : World) (s5 : a0.size = 5) (h2 : bt a0 2 = 58) (g0 : 48 ≤ bt a0 0 ∧ bt a0 0 ≤ 57) (b : bt a0 1 < 48 ∨ 57 < bt a0 1) (h : some ((0 : Int), (20 : Int)) = some (r1, r2)) :
    Calls Try.prog 18 #[.string a0] w fun e w' => e = .returned (.tuple #[.int .i64 r1, .int .i64 r2]) ∧ Below w.heap.size w w' := by
  have hu := Try.underlying46
  have p5 : ((a0.size : Int) == 5) = true := beq_iff_eq.mpr (by omega)
  have p5' : ((a0.size : Int) != 5) = false := bne_eq_false_iff_eq.mpr (by omega)
  have x2 : ∀ h : 2 < a0.size, ((a0[2]'h).toNat : Int) = 58 := fun h => (bt_at a0 2 h).trans h2
  have x0 : ∀ h : 0 < a0.size, ((a0[0]'h).toNat : Int) = bt a0 0 := fun h => bt_at a0 0 h
  have x1 : ∀ h : 1 < a0.size, ((a0[1]'h).toNat : Int) = bt a0 1 := fun h => bt_at a0 1 h
  have n0 : ∀ c ty, (Instr.next (.pointer (some ⟨w.heap.size + 1, 0, none⟩)) true ty).run Try.prog ((w.alloc c).alloc (.stringIter a0 0)) = .ok (.tuple #[.bool true, .int .i64 0, .int .i32 (bt a0 0)]) ((w.alloc c).alloc (.stringIter a0 1)) :=
    fun c ty => week_Read.nx (p := 0) (week_Read.hp w c _) (by omega) rfl (x0 _) (by omega) (week_Read.at_d w c a0 0 1 ) ty
  have n1 : ∀ c ty, (Instr.next (.pointer (some ⟨w.heap.size + 1, 0, none⟩)) true ty).run Try.prog ((w.alloc c).alloc (.stringIter a0 1)).drew = .ok (.tuple #[.bool true, .int .i64 1, .int .i32 (Utf8.decode a0 1).1]) (World.iterAt ((w.alloc c).alloc (.stringIter a0 1)).drew (w.heap.size + 1) a0 (1 + (Utf8.decode a0 1).2)) :=
    fun c ty => week_Read.nxAny (W := ((w.alloc c).alloc (.stringIter a0 1)).drew) (s := a0) (p := 1) (week_Read.hp w c _) (by omega) rfl ty
  obtain ⟨g0a, g0b⟩ := g0
  clear h2
  generalize bt a0 0 = v0 at *
  generalize bt a0 1 = v1 at *
  simp only [Option.some.injEq, Prod.mk.injEq] at h
  obtain ⟨rfl, rfl⟩ := h
  rcases b with b | b
  · have q1 : decide (v1 < 48) = true := decide_eq_true b
    clear b
    go_enter Try.func18, Try.ntmps18
    go_wp2
    refine wp_loop_rounds 6 ?_
    rw [rounds_succ]; go_wp2
    go_region
    go_wp2
    rw [rounds_succ]; go_wp2
    go_ret2
    exact ⟨rfl, by repeat (first | exact Below.refl _ _ | refine week_Read.bel ?_ _ _ (Nat.le_succ _) | apply below_alloc | apply pw_below_drewN | apply below_drew1)⟩
  · have q1 : decide (v1 < 48) = false := decide_eq_false (by omega)
    have q2 : decide (57 < v1) = true := decide_eq_true b
    clear b
    go_enter Try.func18, Try.ntmps18
    go_wp2
    refine wp_loop_rounds 6 ?_
    rw [rounds_succ]; go_wp2
    go_region
    go_wp2
    rw [rounds_succ]; go_wp2
    go_ret2
    exact ⟨rfl, by repeat (first | exact Below.refl _ _ | refine week_Read.bel ?_ _ _ (Nat.le_succ _) | apply below_alloc | apply pw_below_drewN | apply below_drew1)⟩
set_option maxHeartbeats 4000000 in
theorem week_Read.bad3 (a0 : ByteArray) (r1 r2 : Int) (w : World) (s5 : a0.size = 5) (h2 : bt a0 2 = 58) (g0 : 48 ≤ bt a0 0 ∧ bt a0 0 ≤ 57) (g1 : 48 ≤ bt a0 1 ∧ bt a0 1 ≤ 57) (b : bt a0 3 < 48 ∨ 57 < bt a0 3) (h : some ((0 : Int), (20 : Int)) = some (r1, r2)) :
    Calls Try.prog 18 #[.string a0] w fun e w' => e = .returned (.tuple #[.int .i64 r1, .int .i64 r2]) ∧ Below w.heap.size w w' := by
  have hu := Try.underlying46
  have p5 : ((a0.size : Int) == 5) = true := beq_iff_eq.mpr (by omega)
  have p5' : ((a0.size : Int) != 5) = false := bne_eq_false_iff_eq.mpr (by omega)
  have x2 : ∀ h : 2 < a0.size, ((a0[2]'h).toNat : Int) = 58 := fun h => (bt_at a0 2 h).trans h2
  have x0 : ∀ h : 0 < a0.size, ((a0[0]'h).toNat : Int) = bt a0 0 := fun h => bt_at a0 0 h
  have x1 : ∀ h : 1 < a0.size, ((a0[1]'h).toNat : Int) = bt a0 1 := fun h => bt_at a0 1 h
  have x3 : ∀ h : 3 < a0.size, ((a0[3]'h).toNat : Int) = bt a0 3 := fun h => bt_at a0 3 h
  have n0 : ∀ c ty, (Instr.next (.pointer (some ⟨w.heap.size + 1, 0, none⟩)) true ty).run Try.prog ((w.alloc c).alloc (.stringIter a0 0)) = .ok (.tuple #[.bool true, .int .i64 0, .int .i32 (bt a0 0)]) ((w.alloc c).alloc (.stringIter a0 1)) :=
    fun c ty => week_Read.nx (p := 0) (week_Read.hp w c _) (by omega) rfl (x0 _) (by omega) (week_Read.at_d w c a0 0 1 ) ty
  have n1 : ∀ c ty, (Instr.next (.pointer (some ⟨w.heap.size + 1, 0, none⟩)) true ty).run Try.prog ((w.alloc c).alloc (.stringIter a0 1)).drew = .ok (.tuple #[.bool true, .int .i64 1, .int .i32 (bt a0 1)]) ((w.alloc c).alloc (.stringIter a0 2)).drew :=
    fun c ty => week_Read.nx (W := ((w.alloc c).alloc (.stringIter a0 1)).drew) (s := a0) (p := 1) (week_Read.hp w c _) (by omega) rfl (x1 _) (by omega) (congrArg (fun W : World => W.drew) (week_Read.at_d w c a0 1 2)) ty
  have n2 : ∀ c ty, (Instr.next (.pointer (some ⟨w.heap.size + 1, 0, none⟩)) true ty).run Try.prog ((w.alloc c).alloc (.stringIter a0 2)).drew.drew = .ok (.tuple #[.bool true, .int .i64 2, .int .i32 58]) ((w.alloc c).alloc (.stringIter a0 3)).drew.drew :=
    fun c ty => week_Read.nx (W := ((w.alloc c).alloc (.stringIter a0 2)).drew.drew) (s := a0) (p := 2) (week_Read.hp w c _) (by omega) rfl (x2 _) (by omega) (congrArg (fun W : World => W.drew.drew) (week_Read.at_d w c a0 2 3)) ty
  have n3 : ∀ c ty, (Instr.next (.pointer (some ⟨w.heap.size + 1, 0, none⟩)) true ty).run Try.prog ((w.alloc c).alloc (.stringIter a0 3)).drew.drew = .ok (.tuple #[.bool true, .int .i64 3, .int .i32 (Utf8.decode a0 3).1]) (World.iterAt ((w.alloc c).alloc (.stringIter a0 3)).drew.drew (w.heap.size + 1) a0 (3 + (Utf8.decode a0 3).2)) :=
    fun c ty => week_Read.nxAny (W := ((w.alloc c).alloc (.stringIter a0 3)).drew.drew) (s := a0) (p := 3) (week_Read.hp w c _) (by omega) rfl ty
  obtain ⟨g0a, g0b⟩ := g0
  obtain ⟨g1a, g1b⟩ := g1
  clear h2
  generalize bt a0 0 = v0 at *
  generalize bt a0 1 = v1 at *
  generalize bt a0 3 = v3 at *
  simp only [Option.some.injEq, Prod.mk.injEq] at h
  obtain ⟨rfl, rfl⟩ := h
  rcases b with b | b
  · have q1 : decide (v3 < 48) = true := decide_eq_true b
    clear b
    go_enter Try.func18, Try.ntmps18
    go_wp2
    refine wp_loop_rounds 6 ?_
    rw [rounds_succ]; go_wp2
    go_region
    go_wp2
    rw [rounds_succ]; go_wp2
    go_region
    go_wp2
    rw [rounds_succ]; go_wp2
    rw [rounds_succ]; go_wp2
    go_ret2
    exact ⟨rfl, by repeat (first | exact Below.refl _ _ | refine week_Read.bel ?_ _ _ (Nat.le_succ _) | apply below_alloc | apply pw_below_drewN | apply below_drew1)⟩
  · have q1 : decide (v3 < 48) = false := decide_eq_false (by omega)
    have q2 : decide (57 < v3) = true := decide_eq_true b
    clear b
    go_enter Try.func18, Try.ntmps18
    go_wp2
    refine wp_loop_rounds 6 ?_
    rw [rounds_succ]; go_wp2
    go_region
    go_wp2
    rw [rounds_succ]; go_wp2
    go_region
    go_wp2
    rw [rounds_succ]; go_wp2
    rw [rounds_succ]; go_wp2
    go_ret2
    exact ⟨rfl, by repeat (first | exact Below.refl _ _ | refine week_Read.bel ?_ _ _ (Nat.le_succ _) | apply below_alloc | apply pw_below_drewN | apply below_drew1)⟩
set_option maxHeartbeats 4000000 in
theorem week_Read.bad4 (a0 : ByteArray) (r1 r2 : Int) (w : World) (s5 : a0.size = 5) (h2 : bt a0 2 = 58) (g0 : 48 ≤ bt a0 0 ∧ bt a0 0 ≤ 57) (g1 : 48 ≤ bt a0 1 ∧ bt a0 1 ≤ 57) (g3 : 48 ≤ bt a0 3 ∧ bt a0 3 ≤ 57) (b : bt a0 4 < 48 ∨ 57 < bt a0 4) (h : some ((0 : Int), (20 : Int)) = some (r1, r2)) :
    Calls Try.prog 18 #[.string a0] w fun e w' => e = .returned (.tuple #[.int .i64 r1, .int .i64 r2]) ∧ Below w.heap.size w w' := by
  have hu := Try.underlying46
  have p5 : ((a0.size : Int) == 5) = true := beq_iff_eq.mpr (by omega)
  have p5' : ((a0.size : Int) != 5) = false := bne_eq_false_iff_eq.mpr (by omega)
  have x2 : ∀ h : 2 < a0.size, ((a0[2]'h).toNat : Int) = 58 := fun h => (bt_at a0 2 h).trans h2
  have x0 : ∀ h : 0 < a0.size, ((a0[0]'h).toNat : Int) = bt a0 0 := fun h => bt_at a0 0 h
  have x1 : ∀ h : 1 < a0.size, ((a0[1]'h).toNat : Int) = bt a0 1 := fun h => bt_at a0 1 h
  have x3 : ∀ h : 3 < a0.size, ((a0[3]'h).toNat : Int) = bt a0 3 := fun h => bt_at a0 3 h
  have x4 : ∀ h : 4 < a0.size, ((a0[4]'h).toNat : Int) = bt a0 4 := fun h => bt_at a0 4 h
  have n0 : ∀ c ty, (Instr.next (.pointer (some ⟨w.heap.size + 1, 0, none⟩)) true ty).run Try.prog ((w.alloc c).alloc (.stringIter a0 0)) = .ok (.tuple #[.bool true, .int .i64 0, .int .i32 (bt a0 0)]) ((w.alloc c).alloc (.stringIter a0 1)) :=
    fun c ty => week_Read.nx (p := 0) (week_Read.hp w c _) (by omega) rfl (x0 _) (by omega) (week_Read.at_d w c a0 0 1 ) ty
  have n1 : ∀ c ty, (Instr.next (.pointer (some ⟨w.heap.size + 1, 0, none⟩)) true ty).run Try.prog ((w.alloc c).alloc (.stringIter a0 1)).drew = .ok (.tuple #[.bool true, .int .i64 1, .int .i32 (bt a0 1)]) ((w.alloc c).alloc (.stringIter a0 2)).drew :=
    fun c ty => week_Read.nx (W := ((w.alloc c).alloc (.stringIter a0 1)).drew) (s := a0) (p := 1) (week_Read.hp w c _) (by omega) rfl (x1 _) (by omega) (congrArg (fun W : World => W.drew) (week_Read.at_d w c a0 1 2)) ty
  have n2 : ∀ c ty, (Instr.next (.pointer (some ⟨w.heap.size + 1, 0, none⟩)) true ty).run Try.prog ((w.alloc c).alloc (.stringIter a0 2)).drew.drew = .ok (.tuple #[.bool true, .int .i64 2, .int .i32 58]) ((w.alloc c).alloc (.stringIter a0 3)).drew.drew :=
    fun c ty => week_Read.nx (W := ((w.alloc c).alloc (.stringIter a0 2)).drew.drew) (s := a0) (p := 2) (week_Read.hp w c _) (by omega) rfl (x2 _) (by omega) (congrArg (fun W : World => W.drew.drew) (week_Read.at_d w c a0 2 3)) ty
  have n3 : ∀ c ty, (Instr.next (.pointer (some ⟨w.heap.size + 1, 0, none⟩)) true ty).run Try.prog ((w.alloc c).alloc (.stringIter a0 3)).drew.drew = .ok (.tuple #[.bool true, .int .i64 3, .int .i32 (bt a0 3)]) ((w.alloc c).alloc (.stringIter a0 4)).drew.drew :=
    fun c ty => week_Read.nx (W := ((w.alloc c).alloc (.stringIter a0 3)).drew.drew) (s := a0) (p := 3) (week_Read.hp w c _) (by omega) rfl (x3 _) (by omega) (congrArg (fun W : World => W.drew.drew) (week_Read.at_d w c a0 3 4)) ty
  have n4 : ∀ c ty, (Instr.next (.pointer (some ⟨w.heap.size + 1, 0, none⟩)) true ty).run Try.prog ((w.alloc c).alloc (.stringIter a0 4)).drew.drew.drew = .ok (.tuple #[.bool true, .int .i64 4, .int .i32 (Utf8.decode a0 4).1]) (World.iterAt ((w.alloc c).alloc (.stringIter a0 4)).drew.drew.drew (w.heap.size + 1) a0 (4 + (Utf8.decode a0 4).2)) :=
    fun c ty => week_Read.nxAny (W := ((w.alloc c).alloc (.stringIter a0 4)).drew.drew.drew) (s := a0) (p := 4) (week_Read.hp w c _) (by omega) rfl ty
  obtain ⟨g0a, g0b⟩ := g0
  obtain ⟨g1a, g1b⟩ := g1
  obtain ⟨g3a, g3b⟩ := g3
  clear h2
  generalize bt a0 0 = v0 at *
  generalize bt a0 1 = v1 at *
  generalize bt a0 3 = v3 at *
  generalize bt a0 4 = v4 at *
  simp only [Option.some.injEq, Prod.mk.injEq] at h
  obtain ⟨rfl, rfl⟩ := h
  rcases b with b | b
  · have q1 : decide (v4 < 48) = true := decide_eq_true b
    clear b
    go_enter Try.func18, Try.ntmps18
    go_wp2
    refine wp_loop_rounds 6 ?_
    rw [rounds_succ]; go_wp2
    go_region
    go_wp2
    rw [rounds_succ]; go_wp2
    go_region
    go_wp2
    rw [rounds_succ]; go_wp2
    rw [rounds_succ]; go_wp2
    go_region
    go_wp2
    rw [rounds_succ]; go_wp2
    go_ret2
    exact ⟨rfl, by repeat (first | exact Below.refl _ _ | refine week_Read.bel ?_ _ _ (Nat.le_succ _) | apply below_alloc | apply pw_below_drewN | apply below_drew1)⟩
  · have q1 : decide (v4 < 48) = false := decide_eq_false (by omega)
    have q2 : decide (57 < v4) = true := decide_eq_true b
    clear b
    go_enter Try.func18, Try.ntmps18
    go_wp2
    refine wp_loop_rounds 6 ?_
    rw [rounds_succ]; go_wp2
    go_region
    go_wp2
    rw [rounds_succ]; go_wp2
    go_region
    go_wp2
    rw [rounds_succ]; go_wp2
    rw [rounds_succ]; go_wp2
    go_region
    go_wp2
    rw [rounds_succ]; go_wp2
    go_ret2
    exact ⟨rfl, by repeat (first | exact Below.refl _ _ | refine week_Read.bel ?_ _ _ (Nat.le_succ _) | apply below_alloc | apply pw_below_drewN | apply below_drew1)⟩
set_option maxHeartbeats 4000000 in
theorem week_Read.good (a0 : ByteArray) (r1 r2 : Int) (w : World) (s5 : a0.size = 5) (h2 : bt a0 2 = 58) (g0 : 48 ≤ bt a0 0 ∧ bt a0 0 ≤ 57) (g1 : 48 ≤ bt a0 1 ∧ bt a0 1 ≤ 57) (g3 : 48 ≤ bt a0 3 ∧ bt a0 3 ≤ 57) (g4 : 48 ≤ bt a0 4 ∧ bt a0 4 ≤ 57) (h : (if week_Read.two a0 0 > 23 then some (0, 6) else if week_Read.two a0 3 > 59 then some (0, 6) else some (week_Read.two a0 0 * 60 + week_Read.two a0 3, 0)) = some (r1, r2)) :
    Calls Try.prog 18 #[.string a0] w fun e w' => e = .returned (.tuple #[.int .i64 r1, .int .i64 r2]) ∧ Below w.heap.size w w' := by
  have hu := Try.underlying46
  have p5 : ((a0.size : Int) == 5) = true := beq_iff_eq.mpr (by omega)
  have p5' : ((a0.size : Int) != 5) = false := bne_eq_false_iff_eq.mpr (by omega)
  have x2 : ∀ h : 2 < a0.size, ((a0[2]'h).toNat : Int) = 58 := fun h => (bt_at a0 2 h).trans h2
  have x0 : ∀ h : 0 < a0.size, ((a0[0]'h).toNat : Int) = bt a0 0 := fun h => bt_at a0 0 h
  have x1 : ∀ h : 1 < a0.size, ((a0[1]'h).toNat : Int) = bt a0 1 := fun h => bt_at a0 1 h
  have x3 : ∀ h : 3 < a0.size, ((a0[3]'h).toNat : Int) = bt a0 3 := fun h => bt_at a0 3 h
  have x4 : ∀ h : 4 < a0.size, ((a0[4]'h).toNat : Int) = bt a0 4 := fun h => bt_at a0 4 h
  have n0 : ∀ c ty, (Instr.next (.pointer (some ⟨w.heap.size + 1, 0, none⟩)) true ty).run Try.prog ((w.alloc c).alloc (.stringIter a0 0)) = .ok (.tuple #[.bool true, .int .i64 0, .int .i32 (bt a0 0)]) ((w.alloc c).alloc (.stringIter a0 1)) :=
    fun c ty => week_Read.nx (p := 0) (week_Read.hp w c _) (by omega) rfl (x0 _) (by omega) (week_Read.at_d w c a0 0 1 ) ty
  have n1 : ∀ c ty, (Instr.next (.pointer (some ⟨w.heap.size + 1, 0, none⟩)) true ty).run Try.prog ((w.alloc c).alloc (.stringIter a0 1)).drew = .ok (.tuple #[.bool true, .int .i64 1, .int .i32 (bt a0 1)]) ((w.alloc c).alloc (.stringIter a0 2)).drew :=
    fun c ty => week_Read.nx (W := ((w.alloc c).alloc (.stringIter a0 1)).drew) (s := a0) (p := 1) (week_Read.hp w c _) (by omega) rfl (x1 _) (by omega) (congrArg (fun W : World => W.drew) (week_Read.at_d w c a0 1 2)) ty
  have n2 : ∀ c ty, (Instr.next (.pointer (some ⟨w.heap.size + 1, 0, none⟩)) true ty).run Try.prog ((w.alloc c).alloc (.stringIter a0 2)).drew.drew = .ok (.tuple #[.bool true, .int .i64 2, .int .i32 58]) ((w.alloc c).alloc (.stringIter a0 3)).drew.drew :=
    fun c ty => week_Read.nx (W := ((w.alloc c).alloc (.stringIter a0 2)).drew.drew) (s := a0) (p := 2) (week_Read.hp w c _) (by omega) rfl (x2 _) (by omega) (congrArg (fun W : World => W.drew.drew) (week_Read.at_d w c a0 2 3)) ty
  have n3 : ∀ c ty, (Instr.next (.pointer (some ⟨w.heap.size + 1, 0, none⟩)) true ty).run Try.prog ((w.alloc c).alloc (.stringIter a0 3)).drew.drew = .ok (.tuple #[.bool true, .int .i64 3, .int .i32 (bt a0 3)]) ((w.alloc c).alloc (.stringIter a0 4)).drew.drew :=
    fun c ty => week_Read.nx (W := ((w.alloc c).alloc (.stringIter a0 3)).drew.drew) (s := a0) (p := 3) (week_Read.hp w c _) (by omega) rfl (x3 _) (by omega) (congrArg (fun W : World => W.drew.drew) (week_Read.at_d w c a0 3 4)) ty
  have n4 : ∀ c ty, (Instr.next (.pointer (some ⟨w.heap.size + 1, 0, none⟩)) true ty).run Try.prog ((w.alloc c).alloc (.stringIter a0 4)).drew.drew.drew = .ok (.tuple #[.bool true, .int .i64 4, .int .i32 (bt a0 4)]) ((w.alloc c).alloc (.stringIter a0 5)).drew.drew.drew :=
    fun c ty => week_Read.nx (W := ((w.alloc c).alloc (.stringIter a0 4)).drew.drew.drew) (s := a0) (p := 4) (week_Read.hp w c _) (by omega) rfl (x4 _) (by omega) (congrArg (fun W : World => W.drew.drew.drew) (week_Read.at_d w c a0 4 5)) ty
  have n5 : ∀ c ty, (Instr.next (.pointer (some ⟨w.heap.size + 1, 0, none⟩)) true ty).run Try.prog ((w.alloc c).alloc (.stringIter a0 5)).drew.drew.drew.drew = .ok (.tuple #[.bool false]) ((w.alloc c).alloc (.stringIter a0 5)).drew.drew.drew.drew :=
    fun c ty => Go.Lib.run_next_end_at _ _ a0 5 ty (week_Read.hp w c _) (by omega)
  obtain ⟨g0a, g0b⟩ := g0
  obtain ⟨g1a, g1b⟩ := g1
  obtain ⟨g3a, g3b⟩ := g3
  obtain ⟨g4a, g4b⟩ := g4
  simp only [week_Read.two, show (0 : Int) + 1 = 1 from rfl, show (3 : Int) + 1 = 4 from rfl] at h
  clear h2
  generalize bt a0 0 = v0 at *
  generalize bt a0 1 = v1 at *
  generalize bt a0 3 = v3 at *
  generalize bt a0 4 = v4 at *
  by_cases c1 : (v0 - 48) * 10 + (v1 - 48) > 23
  · rw [if_pos c1] at h
    simp only [Option.some.injEq, Prod.mk.injEq] at h
    obtain ⟨rfl, rfl⟩ := h
    have q1 : decide (23 < (v0 - 48) * 10 + (v1 - 48)) = true := decide_eq_true c1
    clear c1
    go_enter Try.func18, Try.ntmps18
    go_wp2
    refine wp_loop_rounds 6 ?_
    rw [rounds_succ]; go_wp2
    go_region
    go_wp2
    rw [rounds_succ]; go_wp2
    go_region
    go_wp2
    rw [rounds_succ]; go_wp2
    rw [rounds_succ]; go_wp2
    go_region
    go_wp2
    rw [rounds_succ]; go_wp2
    go_region
    go_wp2
    rw [rounds_succ]; go_wp2
    go_ret2
    exact ⟨rfl, by repeat (first | exact Below.refl _ _ | refine week_Read.bel ?_ _ _ (Nat.le_succ _) | apply below_alloc | apply pw_below_drewN | apply below_drew1)⟩
  rw [if_neg c1] at h
  have q1 : decide (23 < (v0 - 48) * 10 + (v1 - 48)) = false := decide_eq_false c1
  clear c1
  by_cases c2 : (v3 - 48) * 10 + (v4 - 48) > 59
  · rw [if_pos c2] at h
    simp only [Option.some.injEq, Prod.mk.injEq] at h
    obtain ⟨rfl, rfl⟩ := h
    have q2 : decide (59 < (v3 - 48) * 10 + (v4 - 48)) = true := decide_eq_true c2
    clear c2
    go_enter Try.func18, Try.ntmps18
    go_wp2
    refine wp_loop_rounds 6 ?_
    rw [rounds_succ]; go_wp2
    go_region
    go_wp2
    rw [rounds_succ]; go_wp2
    go_region
    go_wp2
    rw [rounds_succ]; go_wp2
    rw [rounds_succ]; go_wp2
    go_region
    go_wp2
    rw [rounds_succ]; go_wp2
    go_region
    go_wp2
    rw [rounds_succ]; go_wp2
    go_ret2
    exact ⟨rfl, by repeat (first | exact Below.refl _ _ | refine week_Read.bel ?_ _ _ (Nat.le_succ _) | apply below_alloc | apply pw_below_drewN | apply below_drew1)⟩
  rw [if_neg c2] at h
  simp only [Option.some.injEq, Prod.mk.injEq] at h
  obtain ⟨rfl, rfl⟩ := h
  have q2 : decide (59 < (v3 - 48) * 10 + (v4 - 48)) = false := decide_eq_false c2
  clear c2
  go_enter Try.func18, Try.ntmps18
  go_wp2
  refine wp_loop_rounds 6 ?_
  rw [rounds_succ]; go_wp2
  go_region
  go_wp2
  rw [rounds_succ]; go_wp2
  go_region
  go_wp2
  rw [rounds_succ]; go_wp2
  rw [rounds_succ]; go_wp2
  go_region
  go_wp2
  rw [rounds_succ]; go_wp2
  go_region
  go_wp2
  rw [rounds_succ]; go_wp2
  go_ret2
  exact ⟨rfl, by repeat (first | exact Below.refl _ _ | refine week_Read.bel ?_ _ _ (Nat.le_succ _) | apply below_alloc | apply pw_below_drewN | apply below_drew1)⟩
set_option maxHeartbeats 4000000 in
theorem week_Read.calls (a0 : ByteArray) (r1 : Int) (r2 : Int) (w : World) (h : week_Read.f a0 = some (r1, r2)) :
    Calls Try.prog 18 #[.string a0] w fun e w' => e = .returned (.tuple #[.int .i64 r1, .int .i64 r2]) ∧ Below w.heap.size w w' := by
  unfold week_Read.f at h
  by_cases c5 : (a0.size : Int) = 5
  · rw [if_pos c5] at h
    have s5 : a0.size = 5 := by omega
    by_cases c2 : bt a0 2 = 58
    · rw [if_pos c2] at h
      by_cases b0 : week_Read.bad a0 0
      · rw [if_pos b0] at h
        exact week_Read.bad0 a0 r1 r2 w s5 c2 b0 h
      rw [if_neg b0] at h
      have g0 : 48 ≤ bt a0 0 ∧ bt a0 0 ≤ 57 := by unfold week_Read.bad at b0; omega
      by_cases b1 : week_Read.bad a0 1
      · rw [if_pos b1] at h
        exact week_Read.bad1 a0 r1 r2 w s5 c2 g0 b1 h
      rw [if_neg b1] at h
      have g1 : 48 ≤ bt a0 1 ∧ bt a0 1 ≤ 57 := by unfold week_Read.bad at b1; omega
      by_cases b3 : week_Read.bad a0 3
      · rw [if_pos b3] at h
        exact week_Read.bad3 a0 r1 r2 w s5 c2 g0 g1 b3 h
      rw [if_neg b3] at h
      have g3 : 48 ≤ bt a0 3 ∧ bt a0 3 ≤ 57 := by unfold week_Read.bad at b3; omega
      by_cases b4 : week_Read.bad a0 4
      · rw [if_pos b4] at h
        exact week_Read.bad4 a0 r1 r2 w s5 c2 g0 g1 g3 b4 h
      rw [if_neg b4] at h
      have g4 : 48 ≤ bt a0 4 ∧ bt a0 4 ≤ 57 := by unfold week_Read.bad at b4; omega
      exact week_Read.good a0 r1 r2 w s5 c2 g0 g1 g3 g4 h
    · rw [if_neg c2] at h
      simp only [Option.some.injEq, Prod.mk.injEq] at h
      obtain ⟨rfl, rfl⟩ := h
      have p5 : ((a0.size : Int) == 5) = true := beq_iff_eq.mpr c5
      have p5' : ((a0.size : Int) != 5) = false := bne_eq_false_iff_eq.mpr c5
      have x2 : ∀ h : 2 < a0.size, ((a0[2]'h).toNat : Int) = bt a0 2 := fun h => bt_at a0 2 h
      have q2 : (bt a0 2 == 58) = false := beq_eq_false_iff_ne.mpr c2
      have q3 : (bt a0 2 != 58) = true := bne_iff_ne.mpr c2
      clear c5 c2
      generalize bt a0 2 = v2 at *
      go_enter Try.func18, Try.ntmps18
      go_wp2
      go_ret2
      exact ⟨rfl, Below.refl _ _⟩
  · rw [if_neg c5] at h
    simp only [Option.some.injEq, Prod.mk.injEq] at h
    obtain ⟨rfl, rfl⟩ := h
    have p5 : ((a0.size : Int) == 5) = false := beq_eq_false_iff_ne.mpr c5
    have p5' : ((a0.size : Int) != 5) = true := bne_iff_ne.mpr c5
    clear c5
    go_enter Try.func18, Try.ntmps18
    go_wp2
    go_ret2
    exact ⟨rfl, Below.refl _ _⟩
end

/-! ### dayshiftref01_mod: function 49 -/
def dayshiftref01_mod.f (a0 : Int) (a1 : Int) : Option (Int) := if a1 = 0 then (none) else (if (Int.tmod a0 a1) < 0 then (some (wrap64 ((Int.tmod a0 a1) + a1))) else (some (Int.tmod a0 a1)))
set_option maxHeartbeats 8000000 in
set_option maxRecDepth 100000 in
theorem dayshiftref01_mod.calls (a0 : Int) (a1 : Int) (r : Int) (w : World) (h : dayshiftref01_mod.f a0 a1 = some r) :
    Calls Try.prog 49 #[.int .i64 a0, .int .i64 a1] w fun e w' => e = .returned (.int .i64 r) ∧ Drawn0 w w' := by
  have H : (if a1 = 0 then (none) else (if (Int.tmod a0 a1) < 0 then (some (wrap64 ((Int.tmod a0 a1) + a1))) else (some (Int.tmod a0 a1)))) = some r := h
  clear h
  by_cases c3 : a1 = 0
  · rw [if_pos c3] at H
    exact absurd H (by simp)
  · rw [if_neg c3] at H
    have c3b0 : (a1 == 0) = false := beq_eq_false_iff_ne.mpr c3
    have c3b1 : (a1 != 0) = true := bne_iff_ne.mpr c3
    by_cases c4 : (Int.tmod a0 a1) < 0
    · rw [if_pos c4] at H
      have c4b0 : decide ((Int.tmod a0 a1) < 0) = true := decide_eq_true c4
      clear c4
      obtain rfl := Option.some.inj H
      go_enter Try.func49, Try.ntmps49
      go_wp2
      go_ret
      exact ⟨by first | rfl | (simp; done) | (simp [*]; done), by repeat (first | exact Drawn0.refl _ | apply Drawn0.step)⟩
    · rw [if_neg c4] at H
      have c4b0 : decide ((Int.tmod a0 a1) < 0) = false := decide_eq_false c4
      clear c4
      obtain rfl := Option.some.inj H
      go_enter Try.func49, Try.ntmps49
      go_wp2
      go_ret
      exact ⟨by first | rfl | (simp; done) | (simp [*]; done), by repeat (first | exact Drawn0.refl _ | apply Drawn0.step)⟩

/-! ### dayshiftref01_Leap: function 48 -/
def dayshiftref01_Leap.f (a0 : Int) : Option (Bool) := (dayshiftref01_mod.f a0 4).bind fun t129 => (if t129 = 0 then ((dayshiftref01_mod.f a0 100).bind fun t130 => (if t130 = 0 then ((dayshiftref01_mod.f a0 400).bind fun t131 => (some (t131 == 0))) else (some true))) else (some false))
set_option maxHeartbeats 8000000 in
set_option maxRecDepth 100000 in
theorem dayshiftref01_Leap.calls (a0 : Int) (r : Bool) (w : World) (h : dayshiftref01_Leap.f a0 = some r) :
    Calls Try.prog 48 #[.int .i64 a0] w fun e w' => e = .returned (.bool r) ∧ Drawn0 w w' := by
  have H : ((dayshiftref01_mod.f a0 4).bind fun t129 => (if t129 = 0 then ((dayshiftref01_mod.f a0 100).bind fun t130 => (if t130 = 0 then ((dayshiftref01_mod.f a0 400).bind fun t131 => (some (t131 == 0))) else (some true))) else (some false))) = some r := h
  clear h
  replace H := Option.bind_eq_some_iff.mp H
  obtain ⟨t129, A20, H⟩ := H
  replace H : (if t129 = 0 then ((dayshiftref01_mod.f a0 100).bind fun t130 => (if t130 = 0 then ((dayshiftref01_mod.f a0 400).bind fun t131 => (some (t131 == 0))) else (some true))) else (some false)) = some r := H
  have A2 := Aside0.mk A20
  clear A20
  by_cases c3 : t129 = 0
  · rw [if_pos c3] at H
    have c3b0 : (t129 == 0) = true := beq_iff_eq.mpr c3
    have c3b1 : (t129 != 0) = false := bne_eq_false_iff_eq.mpr c3
    clear c3
    replace H := Option.bind_eq_some_iff.mp H
    obtain ⟨t130, A40, H⟩ := H
    replace H : (if t130 = 0 then ((dayshiftref01_mod.f a0 400).bind fun t131 => (some (t131 == 0))) else (some true)) = some r := H
    have A4 := Aside0.mk A40
    clear A40
    by_cases c5 : t130 = 0
    · rw [if_pos c5] at H
      have c5b0 : (t130 == 0) = true := beq_iff_eq.mpr c5
      have c5b1 : (t130 != 0) = false := bne_eq_false_iff_eq.mpr c5
      clear c5
      replace H := Option.bind_eq_some_iff.mp H
      obtain ⟨t131, A60, H⟩ := H
      replace H : (some (t131 == 0)) = some r := H
      have A6 := Aside0.mk A60
      clear A60
      obtain rfl := Option.some.inj H
      go_enter Try.func48, Try.ntmps48
      go_wp2_with (first | ((with_reducible refine gate_callee (f := 49) rfl ?_); refine goesL_ (some 4) rfl rfl Try.func49 (by kernel_rfl) rfl #[.int .i64 a0, .int .i64 4] rfl (by (try simp only [List.map_toArray, List.map_cons, List.map_nil]); first | done | rfl | (simp only [List.length_drop, List.length_take]; rfl)) ?_; (with_reducible refine (dayshiftref01_mod.calls a0 4 t129 _ A2.out).mono ?_); rintro e w' ⟨rfl, ⟨nd, rfl⟩⟩; refine ⟨_, rfl, ?_⟩) | (go_at_call 49; (with_reducible refine (dayshiftref01_mod.calls a0 100 t130 _ A4.out).mono ?_); rintro e w' ⟨rfl, ⟨nd, rfl⟩⟩) | (go_at_call 49; (with_reducible refine (dayshiftref01_mod.calls a0 400 t131 _ A6.out).mono ?_); rintro e w' ⟨rfl, ⟨nd, rfl⟩⟩))
      go_ret
      exact ⟨by first | rfl | (simp; done) | (simp [*]; done), by repeat (first | exact Drawn0.refl _ | apply Drawn0.step)⟩
    · rw [if_neg c5] at H
      have c5b0 : (t130 == 0) = false := beq_eq_false_iff_ne.mpr c5
      have c5b1 : (t130 != 0) = true := bne_iff_ne.mpr c5
      obtain rfl := Option.some.inj H
      go_enter Try.func48, Try.ntmps48
      go_wp2_with (first | ((with_reducible refine gate_callee (f := 49) rfl ?_); refine goesL_ (some 4) rfl rfl Try.func49 (by kernel_rfl) rfl #[.int .i64 a0, .int .i64 4] rfl (by (try simp only [List.map_toArray, List.map_cons, List.map_nil]); first | done | rfl | (simp only [List.length_drop, List.length_take]; rfl)) ?_; (with_reducible refine (dayshiftref01_mod.calls a0 4 t129 _ A2.out).mono ?_); rintro e w' ⟨rfl, ⟨nd, rfl⟩⟩; refine ⟨_, rfl, ?_⟩) | (go_at_call 49; (with_reducible refine (dayshiftref01_mod.calls a0 100 t130 _ A4.out).mono ?_); rintro e w' ⟨rfl, ⟨nd, rfl⟩⟩))
      go_ret
      exact ⟨by first | rfl | (simp; done) | (simp [*]; done), by repeat (first | exact Drawn0.refl _ | apply Drawn0.step)⟩
  · rw [if_neg c3] at H
    have c3b0 : (t129 == 0) = false := beq_eq_false_iff_ne.mpr c3
    have c3b1 : (t129 != 0) = true := bne_iff_ne.mpr c3
    obtain rfl := Option.some.inj H
    go_enter Try.func48, Try.ntmps48
    go_wp2_with (first | ((with_reducible refine gate_callee (f := 49) rfl ?_); refine goesL_ (some 4) rfl rfl Try.func49 (by kernel_rfl) rfl #[.int .i64 a0, .int .i64 4] rfl (by (try simp only [List.map_toArray, List.map_cons, List.map_nil]); first | done | rfl | (simp only [List.length_drop, List.length_take]; rfl)) ?_; (with_reducible refine (dayshiftref01_mod.calls a0 4 t129 _ A2.out).mono ?_); rintro e w' ⟨rfl, ⟨nd, rfl⟩⟩; refine ⟨_, rfl, ?_⟩))
    go_ret
    exact ⟨by first | rfl | (simp; done) | (simp [*]; done), by repeat (first | exact Drawn0.refl _ | apply Drawn0.step)⟩

end Go.Proofs.Ytjfghphblgkoiaa.PWeekEnds
