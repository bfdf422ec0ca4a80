/- This text holds, for Go functions of the given program, Lean functions with the same answers, and proofs that the machine's calls come to these answers; each theorem names its own conditions. It was laid by a program of this session. -/
import Derived.Test.YtpcjbnaggeiaoaaDoorPCalMovedx0
import Derived.Test.YtpcjbnaggeiaoaaDoorPCalMovedx1
import Derived.Test.YtpcjbnaggeiaoaaDoorPCalMovedx4
import Derived.Test.YtpcjbnaggeiaoaaDoorPCalMovedx8
import Derived.Test.YtpcjbnaggeiaoaaDoorPCalMovedx9
namespace Go.Proofs.YtpcjbnaggeiaoaaDoor.PCalMoved
open Go.RowKit Go.Proofs.YtpcjbnaggeiaoaaDoorW.PrintWords Go.Proofs.YtpcjbnaggeiaoaaDoorW.PrintLast Go.Proofs.YtpcjbnaggeiaoaaDoorW.PrintMore
attribute [local go_sem] max2_int min2_int max_two min_two max_three min_three max_four min_four   -- for this text's walks alone
set_option linter.unusedVariables false
set_option linter.unusedSimpArgs false

/-! ### cal_Shift: function 17 -/
def cal_Shift.f (k : Nat) (l : List S48) (a0 : Int) (l1 : List Int) (l2 : List S31) (a3 : ByteArray) (dir day : Int) : Option (Int × Int) :=
  (cal_open.l0 k k l day [⟨a0, l1, l2, a3⟩] 0).bind fun r => if r = 0 then (if dir < -1 then some (0, 1) else if dir > 1 then some (0, 1) else (moved.l0 k l ⟨a0, l1, l2, a3⟩ dir day 0).bind fun b => if b.2 = true then some (b.1, 0) else some (0, 30)) else some (0, r)
theorem cal_Shift.mono : ∀ l a0 l1 l2 a3 dir day k, LeO (cal_Shift.f k l a0 l1 l2 a3 dir day) (cal_Shift.f (k + 1) l a0 l1 l2 a3 dir day) := by
  intro l a0 l1 l2 a3 dir day k
  unfold cal_Shift.f
  exact LeO.bind (cal_open.mono_l _ _ _ _ _ _) (fun r => LeO.ite (LeO.ite (LeO.refl _) (LeO.ite (LeO.refl _) (LeO.bind (moved.mono_l _ _ _ _ _ _) (fun _ => LeO.refl _)))) (LeO.refl _))
set_option maxHeartbeats 8000000 in
set_option maxRecDepth 100000 in
theorem cal_Shift.calls (k : Nat) (A0 : Option Addr) (c0 : Nat) (l0 : List (S48)) (a1_0 : Int) (A1_1 : Option Addr) (c1_1 : Nat) (l1_1 : List Int) (A1_2 : Option Addr) (c1_2 : Nat) (l1_2 : List (S31)) (a1_3 : ByteArray) (a2 : Int) (a3 : Int) (r1 : Int) (r2 : Int) (w : World) (hr0 : Kd.C k48 w A0 l0.length l0) (hc0 : l0.length ≤ c0) (hr1_1 : Kd.C (Kd.int .i64) w A1_1 l1_1.length l1_1) (hc1_1 : l1_1.length ≤ c1_1) (hr1_2 : Kd.C k31 w A1_2 l1_2.length l1_2) (hc1_2 : l1_2.length ≤ c1_2) (hg : GOK w) (h : cal_Shift.f k l0 a1_0 l1_1 l1_2 a1_3 a2 a3 = some (r1, r2)) :
    Calls Tryd.prog 17 #[.slice A0 l0.length c0, .agg #[.int .i64 a1_0, .slice A1_1 l1_1.length c1_1, .slice A1_2 l1_2.length c1_2, .string a1_3], .int .i64 a2, .int .i64 a3] w fun e w' => e = .returned (.tuple #[.int .i64 r1, .int .i64 r2]) ∧ Below w.heap.size w w' := by
  unfold cal_Shift.f at h
  obtain ⟨r, hop, h⟩ := Option.bind_eq_some_iff.mp h
  go_enter Tryd.func17, Tryd.ntmps17
  go_wp2_with (fail)
  obtain ⟨hb, kn, kp⟩ := node_base w (.cells #[.int .i64 a1_0, .slice A1_1 l1_1.length c1_1, .slice A1_2 l1_2.length c1_2, .string a1_3] 31 (0, 0)) (.cells #[.int .i64 a1_0, .slice A1_1 l1_1.length c1_1, .slice A1_2 l1_2.length c1_2, .string a1_3] 31 (0, 0))
  obtain ⟨W, hW⟩ : ∃ W, W = (w.alloc (.cells #[.int .i64 a1_0, .slice A1_1 l1_1.length c1_1, .slice A1_2 l1_2.length c1_2, .string a1_3] 31 (0, 0))).alloc (.cells #[.int .i64 a1_0, .slice A1_1 l1_1.length c1_1, .slice A1_2 l1_2.length c1_2, .string a1_3] 31 (0, 0)) := ⟨_, rfl⟩
  rw [← hW] at hb kn kp ⊢
  clear hW
  have g1 := Kd.C_below hr1_1 hb
  have g2 := Kd.C_below hr1_2 hb
  have g0 := Kd.C_below hr0 hb
  have gg := GOK.below hg hb
  have hone := one_node ⟨a1_0, l1_1, l1_2, a1_3⟩ kp g1 hc1_1 g2 hc1_2
  have hopen := fun (W' : World) (hW : Below W.heap.size W W') => cal_open.calls k k A0 c0 l0 a3 (some ⟨w.heap.size + 1, 0, none⟩) 1 [⟨a1_0, l1_1, l1_2, a1_3⟩] r W' (Kd.C_below g0 hW) hc0 (Kd.C_below hone hW) (by simp) hop
  have HKN := Aside0.mk kn
  have HB := Aside0.mk hb
  have HG := Aside0.mk gg
  have G0 := Aside0.mk g0
  have G1 := Aside0.mk g1
  have G2 := Aside0.mk g2
  clear hr0 hr1_1 hr1_2 hg g0 g1 g2 gg kn kp hb hone
  have HOP := Aside0.mk hop
  clear hop
  have H := Aside0.mk h
  clear h
  refine (hopen _ (Below.refl _ _)).mono ?_
  rintro e w1 ⟨hpost, hb1⟩
  clear hopen
  rcases hpost with ⟨rfl, bb, mb, met, rfl, hbk, hmp, hbb, hmb, hne⟩ | ⟨hr, rfl⟩
  · have h := H.out
    rw [if_pos rfl] at h
    have HB1 := Aside0.mk hb1
    have HMB := Aside0.mk hmb
    by_cases q1 : a2 < -1
    · rw [if_pos q1] at h
      obtain ⟨rfl, rfl⟩ := Prod.mk.inj (Option.some.inj h)
      have q1b : decide (a2 < -1) = true := decide_eq_true q1
      clear h H HOP hbk hmp hbb hmb hne hb1 q1
      go_wp2
      go_ret2
      exact ⟨rfl, HB.out.trans (HB1.out.mono HB.out.size)⟩
    rw [if_neg q1] at h
    have q1b : decide (a2 < -1) = false := decide_eq_false q1
    by_cases q2 : a2 > 1
    · rw [if_pos q2] at h
      obtain ⟨rfl, rfl⟩ := Prod.mk.inj (Option.some.inj h)
      have q2b : decide (1 < a2) = true := decide_eq_true q2
      clear h H HOP hbk hmp hbb hmb hne hb1 q1 q2
      go_wp2
      go_ret2
      exact ⟨rfl, HB.out.trans (HB1.out.mono HB.out.size)⟩
    rw [if_neg q2] at h
    have q2b : decide (1 < a2) = false := decide_eq_false q2
    obtain ⟨b, hin, h⟩ := Option.bind_eq_some_iff.mp h
    have hbook := new_book G0.out hc0 (open_len HOP.out (by simp)) HG.out hb1 hbk hmp hbb hmb hne
    have hcall := moved.calls k l0 A0 c0 bb mb met W w1 ⟨a1_0, l1_1, l1_2, a1_3⟩ A1_1 c1_1 A1_2 c1_2 a2 a3 b hbook G1.out hc1_1 G2.out hc1_2 hin
    have kn1 := (hb1.block _ (blk_lt HKN.out)).trans HKN.out
    have u0 : w1.cell? ⟨w.heap.size, 0, none⟩ = _ := blk_cell kn1 0
    have u1 : w1.cell? ⟨w.heap.size, 1, none⟩ = _ := blk_cell kn1 1
    have u2 : w1.cell? ⟨w.heap.size, 2, none⟩ = _ := blk_cell kn1 2
    have u3 : w1.cell? ⟨w.heap.size, 3, none⟩ = _ := blk_cell kn1 3
    simp only [List.getElem?_toArray, List.getElem?_cons_zero, List.getElem?_cons_succ] at u0 u1 u2 u3
    obtain ⟨b1, b2⟩ := b
    have HH := Aside0.mk h
    clear hin hbook hbk hmp hbb hmb hne H HOP kn1 hb1 q1 q2 h
    cases b2 with
    | true =>
      have h := HH.out
      simp only [if_true] at h
      obtain ⟨rfl, rfl⟩ := Prod.mk.inj (Option.some.inj h)
      clear h HH
      go_wp2_with (go_at_call 28; refine hcall.mono ?_; rintro e w2 ⟨rfl, hk2, hm2⟩)
      go_ret2
      exact ⟨rfl, hk2.below (HB.out.trans (HB1.out.mono HB.out.size)) (fun j e => e ▸ (Nat.le_trans HB.out.size HMB.out))⟩
    | false =>
      have h := HH.out
      simp at h
      obtain ⟨rfl, rfl⟩ := h
      clear HH
      go_wp2_with (go_at_call 28; refine hcall.mono ?_; rintro e w2 ⟨rfl, hk2, hm2⟩)
      go_ret2
      exact ⟨rfl, hk2.below (HB.out.trans (HB1.out.mono HB.out.size)) (fun j e => e ▸ (Nat.le_trans HB.out.size HMB.out))⟩
  · have h := H.out
    rw [if_neg hr] at h
    obtain ⟨rfl, rfl⟩ := Prod.mk.inj (Option.some.inj h)
    have hrb : (r != 0) = true := bne_iff_ne.mpr hr
    have HB1 := Aside0.mk hb1
    clear h H hr HOP hb1
    go_wp2
    go_ret2
    exact ⟨rfl, HB.out.trans (HB1.out.mono HB.out.size)⟩

/-! ### dayshiftlaw06_known: function 10 -/
theorem size_push (w : World) (o : Obj) : (w.alloc o).heap.size = w.heap.size + 1 := by
  show (w.heap.push o).size = _
  rw [Array.size_push]
theorem heap_new (w : World) (o : Obj) (i : Nat) (h : i = w.heap.size) : (w.alloc o).heap[i]? = some o := by
  subst h
  exact blk_new w o
theorem heap_old (w : World) (o : Obj) (i : Nat) (h : i ≠ w.heap.size) : (w.alloc o).heap[i]? = w.heap[i]? := by
  show (w.heap.push o)[i]? = _
  rw [Array.getElem?_push, if_neg h]
abbrev dayshiftlaw06_known.work : ByteArray := ⟨#[119, 111, 114, 107]⟩
def dayshiftlaw06_known.l : List S48 := [⟨dayshiftlaw06_known.work, ⟨1, [31], [], ⟨#[]⟩⟩⟩]
def dayshiftlaw06_known.f (k : Nat) : Option Bool :=
  (dayshiftlaw06_day.f k 2024 3 29).bind fun d1 => (cal_In.f k dayshiftlaw06_known.l 5 [-1] [] dayshiftlaw06_known.work d1).bind fun a =>
  (dayshiftlaw06_day.f k 2024 4 1).bind fun d2 => (cal_In.f k dayshiftlaw06_known.l 6 [445, 1] [] ⟨#[]⟩ d2).bind fun b =>
  (dayshiftlaw06_day.f k 2024 3 30).bind fun d3 => (cal_Shift.f k dayshiftlaw06_known.l 1 [31] [] ⟨#[]⟩ 1 d3).bind fun c =>
  (dayshiftlaw06_day.f k 2024 3 25).bind fun d4 => (cal_In.f k dayshiftlaw06_known.l 6 [445, 1] [] ⟨#[]⟩ d4).bind fun d =>
  if a = (true, 0) then if b = (true, 0) then if c = (d2, 0) then if d = (false, 0) then some true else none else none else none else none
theorem dayshiftlaw06_known.mono : ∀ k, LeO (dayshiftlaw06_known.f k) (dayshiftlaw06_known.f (k + 1)) := by
  intro k
  unfold dayshiftlaw06_known.f
  repeat' first
  | (with_reducible exact dayshiftlaw06_day.mono _ _ _ _)
  | (with_reducible exact cal_In.mono _ _ _ _ _ _ _)
  | (with_reducible exact cal_Shift.mono _ _ _ _ _ _ _ _)
  | (with_reducible exact LeO.refl _)
  | (with_reducible exact LeO.none _)
  | (with_reducible refine LeO.ite ?_ ?_)
  | (with_reducible refine LeO.bind ?_ (fun _ => ?_))
theorem dayshiftlaw06_known.ints (w : World) (g : Nat) (t : TypeId) (a : Int) (h : w.heap[g]? = some (.cells #[.int .i64 a] t (0, 0))) : Kd.C (Kd.int .i64) w (some ⟨g, 0, none⟩) [a].length [a] := C_of_block (Kd.int .i64) h (by simp) ((Reps.none _ _).snoc rfl rfl)
theorem dayshiftlaw06_known.ints2 (w : World) (g : Nat) (t : TypeId) (a b : Int) (h : w.heap[g]? = some (.cells #[.int .i64 a, .int .i64 b] t (0, 0))) : Kd.C (Kd.int .i64) w (some ⟨g, 0, none⟩) [a, b].length [a, b] := C_of_block (Kd.int .i64) h (by simp) (Kd.reps_scalar (enc := Value.int .i64) [a, b])
set_option maxHeartbeats 8000000 in
set_option maxRecDepth 100000 in
theorem dayshiftlaw06_known.calls (k : Nat) (r : Bool) (w : World) (hg : GOK w) (h : dayshiftlaw06_known.f k = some r) : Calls Tryd.prog 10 #[] w fun e w' => e = .returned (.bool r) ∧ Below w.heap.size w w' := by
  unfold dayshiftlaw06_known.f at h
  obtain ⟨d1, hd1, h'⟩ := Option.bind_eq_some_iff.mp h; clear h; rename _ => h
  obtain ⟨a, ha, h'⟩ := Option.bind_eq_some_iff.mp h; clear h; rename _ => h
  obtain ⟨d2, hd2, h'⟩ := Option.bind_eq_some_iff.mp h; clear h; rename _ => h
  obtain ⟨b, hb, h'⟩ := Option.bind_eq_some_iff.mp h; clear h; rename _ => h
  obtain ⟨d3, hd3, h'⟩ := Option.bind_eq_some_iff.mp h; clear h; rename _ => h
  obtain ⟨c, hc, h'⟩ := Option.bind_eq_some_iff.mp h; clear h; rename _ => h
  obtain ⟨d4, hd4, h'⟩ := Option.bind_eq_some_iff.mp h; clear h; rename _ => h
  obtain ⟨d, hd, h'⟩ := Option.bind_eq_some_iff.mp h; clear h; rename _ => h
  by_cases z1 : a = (true, 0)
  rotate_left
  · rw [if_neg z1] at h; cases h
  rw [if_pos z1] at h
  by_cases z2 : b = (true, 0)
  rotate_left
  · rw [if_neg z2] at h; cases h
  rw [if_pos z2] at h
  by_cases z3 : c = (d2, 0)
  rotate_left
  · rw [if_neg z3] at h; cases h
  rw [if_pos z3] at h
  by_cases z4 : d = (false, 0)
  rotate_left
  · rw [if_neg z4] at h; cases h
  rw [if_pos z4] at h
  obtain rfl := Option.some.inj h
  subst z1 z2 z3 z4
  clear h
  have day1 := fun (W : World) => dayshiftlaw06_day.calls k 2024 3 29 d1 W hd1
  have day2 := fun (W : World) => dayshiftlaw06_day.calls k 2024 4 1 d2 W hd2
  have day3 := fun (W : World) => dayshiftlaw06_day.calls k 2024 3 30 d3 W hd3
  have day4 := fun (W : World) => dayshiftlaw06_day.calls k 2024 3 25 d4 W hd4
  clear hd1 hd2 hd3 hd4
  go_enter Tryd.func10, Tryd.ntmps10
  go_wp2_with (fail)
  obtain ⟨W, hW⟩ : ∃ W, W = ((((w.alloc (.cells #[.int .i64 31] 2 (0, 0))).alloc (.cells #[.int .i64 1, .slice (some ⟨w.heap.size, 0, none⟩) 1 1, .slice none 0 0, .string ⟨#[]⟩] 31 (0, 0))).alloc (.cells #[.string ⟨#[119, 111, 114, 107]⟩, .int .i64 1, .slice (some ⟨w.heap.size, 0, none⟩) 1 1, .slice none 0 0, .string ⟨#[]⟩] 48 (0, 0))).alloc (.cells #[.int .i64 (-1)] 2 (0, 0))) := ⟨_, rfl⟩
  have h0 : Below w.heap.size w W := by rw [hW]; exact below_alloc (below_alloc (below_alloc (below_alloc (Below.refl _ _) _) _) _) _
  have k0 : W.heap[w.heap.size]? = some (.cells #[.int .i64 31] 2 (0, 0)) := by rw [hW]; (repeat (first | exact heap_new _ _ _ (by first | rfl | (simp only [size_push]; done) | (simp only [size_push]; omega)) | rw [heap_old _ _ _ (by simp only [size_push]; omega)]))
  have k1 : W.heap[w.heap.size + 1]? = some (.cells #[.int .i64 1, .slice (some ⟨w.heap.size, 0, none⟩) 1 1, .slice none 0 0, .string ⟨#[]⟩] 31 (0, 0)) := by rw [hW]; (repeat (first | exact heap_new _ _ _ (by first | rfl | (simp only [size_push]; done) | (simp only [size_push]; omega)) | rw [heap_old _ _ _ (by simp only [size_push]; omega)]))
  have k2 : W.heap[w.heap.size + 2]? = some (.cells #[.string ⟨#[119, 111, 114, 107]⟩, .int .i64 1, .slice (some ⟨w.heap.size, 0, none⟩) 1 1, .slice none 0 0, .string ⟨#[]⟩] 48 (0, 0)) := by rw [hW]; (repeat (first | exact heap_new _ _ _ (by first | rfl | (simp only [size_push]; done) | (simp only [size_push]; omega)) | rw [heap_old _ _ _ (by simp only [size_push]; omega)]))
  have k3 : W.heap[w.heap.size + 3]? = some (.cells #[.int .i64 (-1)] 2 (0, 0)) := by rw [hW]; (repeat (first | exact heap_new _ _ _ (by first | rfl | (simp only [size_push]; done) | (simp only [size_push]; omega)) | rw [heap_old _ _ _ (by simp only [size_push]; omega)]))
  have eW : W.heap.size = w.heap.size + 4 := by rw [hW]; simp only [size_push]
  rw [← hW]
  clear hW
  have g0 := GOK.below hg h0
  have i0 := dayshiftlaw06_known.ints W _ _ _ k0
  have i3 := dayshiftlaw06_known.ints W _ _ _ k3
  have c2 : Kd.C k48 W (some ⟨w.heap.size + 2, 0, none⟩) dayshiftlaw06_known.l.length dayshiftlaw06_known.l := C_of_block k48 k2 (by decide) ((Reps.none _ _).snoc (k48_mk W ⟨dayshiftlaw06_known.work, ⟨1, [31], [], ⟨#[]⟩⟩⟩ (c2 := 1) (by decide) i0 (A3 := none) (c3 := 0) (by decide) (Kd.C_nil _ _)) rfl)
  have in1 : ∀ W', Below W.heap.size W W' → Calls Tryd.prog 9 #[.slice (some ⟨w.heap.size + 2, 0, none⟩) 1 1, .agg #[.int .i64 5, .slice (some ⟨w.heap.size + 3, 0, none⟩) 1 1, .slice none 0 0, .string ⟨#[119, 111, 114, 107]⟩], .int .i64 d1] W' fun e w' => e = .returned (.tuple #[.bool true, .int .i64 0]) ∧ Below W'.heap.size W' w' := fun W' hW => cal_In.calls k (some ⟨w.heap.size + 2, 0, none⟩) 1 dayshiftlaw06_known.l 5 (some ⟨w.heap.size + 3, 0, none⟩) 1 [-1] none 0 [] dayshiftlaw06_known.work d1 true 0 W' (Kd.C_below c2 hW) (by decide) (Kd.C_below i3 hW) (by decide) (Kd.C_nil _ _) (by decide) (GOK.below g0 hW) ha
  have in2 : ∀ W' g, Below W.heap.size W W' → W'.heap[g]? = some (.cells #[.int .i64 445, .int .i64 1] 2 (0, 0)) → Calls Tryd.prog 9 #[.slice (some ⟨w.heap.size + 2, 0, none⟩) 1 1, .agg #[.int .i64 6, .slice (some ⟨g, 0, none⟩) 2 2, .slice none 0 0, .string ⟨#[]⟩], .int .i64 d2] W' fun e w' => e = .returned (.tuple #[.bool true, .int .i64 0]) ∧ Below W'.heap.size W' w' := fun W' g hW hk => cal_In.calls k (some ⟨w.heap.size + 2, 0, none⟩) 1 dayshiftlaw06_known.l 6 (some ⟨g, 0, none⟩) 2 [445, 1] none 0 [] ⟨#[]⟩ d2 true 0 W' (Kd.C_below c2 hW) (by decide) (dayshiftlaw06_known.ints2 W' g _ _ _ hk) (by decide) (Kd.C_nil _ _) (by decide) (GOK.below g0 hW) hb
  have in4 : ∀ W' g, Below W.heap.size W W' → W'.heap[g]? = some (.cells #[.int .i64 445, .int .i64 1] 2 (0, 0)) → Calls Tryd.prog 9 #[.slice (some ⟨w.heap.size + 2, 0, none⟩) 1 1, .agg #[.int .i64 6, .slice (some ⟨g, 0, none⟩) 2 2, .slice none 0 0, .string ⟨#[]⟩], .int .i64 d4] W' fun e w' => e = .returned (.tuple #[.bool false, .int .i64 0]) ∧ Below W'.heap.size W' w' := fun W' g hW hk => cal_In.calls k (some ⟨w.heap.size + 2, 0, none⟩) 1 dayshiftlaw06_known.l 6 (some ⟨g, 0, none⟩) 2 [445, 1] none 0 [] ⟨#[]⟩ d4 false 0 W' (Kd.C_below c2 hW) (by decide) (dayshiftlaw06_known.ints2 W' g _ _ _ hk) (by decide) (Kd.C_nil _ _) (by decide) (GOK.below g0 hW) hd
  have sh : ∀ W', Below W.heap.size W W' → Calls Tryd.prog 17 #[.slice (some ⟨w.heap.size + 2, 0, none⟩) 1 1, .agg #[.int .i64 1, .slice (some ⟨w.heap.size, 0, none⟩) 1 1, .slice none 0 0, .string ⟨#[]⟩], .int .i64 1, .int .i64 d3] W' fun e w' => e = .returned (.tuple #[.int .i64 d2, .int .i64 0]) ∧ Below W'.heap.size W' w' := fun W' hW => cal_Shift.calls k (some ⟨w.heap.size + 2, 0, none⟩) 1 dayshiftlaw06_known.l 1 (some ⟨w.heap.size, 0, none⟩) 1 [31] none 0 [] ⟨#[]⟩ 1 d3 d2 0 W' (Kd.C_below c2 hW) (by decide) (Kd.C_below i0 hW) (by decide) (Kd.C_nil _ _) (by decide) (GOK.below g0 hW) hc
  have HS : Aside0 (∀ W' : World, Below W.heap.size W W' → W'.cell? ⟨w.heap.size + 1, 0, none⟩ = some (.int .i64 1) ∧ W'.cell? ⟨w.heap.size + 1, 1, none⟩ = some (.slice (some ⟨w.heap.size, 0, none⟩) 1 1) ∧ W'.cell? ⟨w.heap.size + 1, 2, none⟩ = some (.slice none 0 0) ∧ W'.cell? ⟨w.heap.size + 1, 3, none⟩ = some (.string ⟨#[]⟩)) := by
    constructor
    intro W' hW'
    have b_ : ∀ j : Nat, W'.cell? ⟨w.heap.size + 1, j, none⟩ = W.cell? ⟨w.heap.size + 1, j, none⟩ := fun j => hW'.cell (p := ⟨w.heap.size + 1, j, none⟩) (blk_lt k1)
    exact ⟨(b_ 0).trans (blk_cell k1 0), (b_ 1).trans (blk_cell k1 1), (b_ 2).trans (blk_cell k1 2), (b_ 3).trans (blk_cell k1 3)⟩
  have hw0 := Below.refl W.heap.size W
  have H0 := Aside0.mk h0
  clear k0 k1 k2 k3 eW g0 i0 i3 c2 hg ha hb hc hd h0
  refine (day1 _).mono ?_
  rintro e w1 ⟨rfl, hb1⟩
  replace hb1 := below_go hw0 (Nat.le_refl _) hb1.below
  go_wp2_with (go_at_call 9; refine (in1 _ hb1).mono ?_; rintro e w2 ⟨rfl, hb2⟩; replace hb2 := below_go hb1 hb1.size hb2)
  obtain ⟨V2, hV⟩ : ∃ V, V = w2.alloc (.cells #[.int .i64 445, .int .i64 1] 2 (0, 0)) := ⟨_, rfl⟩
  have hv2 : Below W.heap.size W V2 := by rw [hV]; exact hb2.alloc hb2.size _
  have kv2 : V2.heap[w2.heap.size]? = some (.cells #[.int .i64 445, .int .i64 1] 2 (0, 0)) := by rw [hV]; exact blk_new _ _
  rw [← hV]
  clear hV
  refine (day2 _).mono ?_
  rintro e w3 ⟨rfl, hbd⟩
  have ku2 := blk_below kv2 hbd.below
  have hb3 := below_go hv2 hv2.size hbd.below
  clear hbd
  go_wp2_with (go_at_call 9; refine (in2 _ _ hb3 ku2).mono ?_; rintro e w4 ⟨rfl, hb4⟩; replace hb4 := below_go hb3 hb3.size hb4)
  go_region_held3 (fun W' => W'.cell? ⟨w.heap.size + 1, 0, none⟩ = some (.int .i64 1) ∧ W'.cell? ⟨w.heap.size + 1, 1, none⟩ = some (.slice (some ⟨w.heap.size, 0, none⟩) 1 1) ∧ W'.cell? ⟨w.heap.size + 1, 2, none⟩ = some (.slice none 0 0) ∧ W'.cell? ⟨w.heap.size + 1, 3, none⟩ = some (.string ⟨#[]⟩))
    (first | exact HS.out _ hb6 | exact HS.out _ (below_drew1 hb6) | exact HS.out _ hb5 | exact HS.out _ (below_drew1 hb5) | exact HS.out _ hb4 | exact HS.out _ (below_drew1 hb4))
    (first | (go_at_call 16; refine (day3 _).mono ?_; rintro e w5 ⟨rfl, hb5'⟩; have hb5 := (show Below W.heap.size W w5 from (by first | exact below_go hb4 hb4.size hb5'.below | exact below_go (below_drew1 hb4) hb4.size hb5'.below)); clear hb5') | (go_at_call 17; refine (sh _ (by first | exact hb5 | exact below_drew1 hb5)).mono ?_; rintro e w6 ⟨rfl, hb6'⟩; have hb6 := (show Below W.heap.size W w6 from (by first | exact below_go hb5 hb5.size hb6' | exact below_go (below_drew1 hb5) hb5.size hb6')); clear hb6'))
  go_wp2_with (fail)
  obtain ⟨V6, hV⟩ : ∃ V, V = w6.alloc (.cells #[.int .i64 445, .int .i64 1] 2 (0, 0)) := ⟨_, rfl⟩
  have hv6 : Below W.heap.size W V6 := by rw [hV]; exact hb6.alloc hb6.size _
  have kv6 : V6.heap[w6.heap.size]? = some (.cells #[.int .i64 445, .int .i64 1] 2 (0, 0)) := by rw [hV]; exact blk_new _ _
  rw [← hV]
  clear hV
  refine (day4 _).mono ?_
  rintro e w7 ⟨rfl, hbd⟩
  have ku6 := blk_below kv6 hbd.below
  have hb7 := below_go hv6 hv6.size hbd.below
  clear hbd
  go_wp2_with (go_at_call 9; refine (in4 _ _ hb7 ku6).mono ?_; rintro e w8 ⟨rfl, hb8⟩; replace hb8 := below_go hb7 hb7.size hb8)
  refine (day2 _).mono ?_
  rintro e w9 ⟨rfl, hb9⟩
  replace hb9 := below_go hb8 hb8.size hb9.below
  go_wp2
  go_ret
  exact ⟨rfl, H0.out.trans (hb9.mono H0.out.size)⟩

/-! ### cal_Due: function 13 -/
def Due.l0 : Nat → List S48 → S31 → S31 → Int → Int → Int → Option (Bool × Int)
  | 0, _, _, _, _, _, _ => none
  | k + 1, l, n, work, dir, day, d =>
    (date_Right.f d).bind fun b => if b = true then
      (if mx (wrap64 (d - day)) (wrap64 (day - d)) ≤ 10 then
        (if d = day then
          (in.f k l n d).bind fun c => if c = true then some (true, 0) else if dir = 0 then some (false, 0) else Due.l0 k l n work dir day (wrap64 (d - dir))
         else (in.f k l work d).bind fun q => if q = true then some (false, 0) else
          (in.f k l n d).bind fun c => if c = true then some (true, 0) else if dir = 0 then some (false, 0) else Due.l0 k l n work dir day (wrap64 (d - dir)))
       else some (false, 0))
      else some (false, 0)
theorem Due.mono_l : ∀ k l n work dir day d, LeO (Due.l0 k l n work dir day d) (Due.l0 (k + 1) l n work dir day d)
  | 0, _, _, _, _, _, _ => fun r h => by simp [Due.l0] at h
  | k + 1, l, n, work, dir, day, d => by
    rw [Due.l0.eq_2, Due.l0.eq_2]
    repeat' first
    | (with_reducible exact Due.mono_l k _ _ _ _ _ _)
    | (with_reducible exact in.mono _ _ _ _)
    | (with_reducible exact LeO.refl _)
    | (with_reducible exact LeO.none _)
    | (with_reducible refine LeO.ite ?_ ?_)
    | (with_reducible refine LeO.bind ?_ (fun _ => ?_))
def DueK.f (k : Nat) (l : List S48) (n work : S31) (dir day : Int) : Option (Bool × Int) :=
  (cal_open.l0 k k l day [n, work] 0).bind fun r => if r = 0 then (if dir < -1 then some (false, 1) else if dir > 1 then some (false, 1) else (in.f k l work day).bind fun b => if b = true then Due.l0 k l n work dir day day else some (false, 0)) else some (false, r)
theorem DueK.mono : ∀ l n work dir day k, LeO (DueK.f k l n work dir day) (DueK.f (k + 1) l n work dir day) := by
  intro l n work dir day k
  unfold DueK.f
  exact LeO.bind (cal_open.mono_l _ _ _ _ _ _) (fun r => LeO.ite (LeO.ite (LeO.refl _) (LeO.ite (LeO.refl _) (LeO.bind (in.mono _ _ _ _) (fun _ => LeO.ite (Due.mono_l _ _ _ _ _ _ _) (LeO.refl _))))) (LeO.refl _))
theorem two_nodes {w : World} {g : Nat} {t : TypeId} (n m : S31) {A1 : Option Addr} {c1 : Nat} {A2 : Option Addr} {c2 : Nat} {B1 : Option Addr} {d1 : Nat} {B2 : Option Addr} {d2 : Nat} (h : w.heap[g]? = some (.cells #[.int .i64 n.f0, .slice A1 n.f1.length c1, .slice A2 n.f2.length c2, .string n.f3, .int .i64 m.f0, .slice B1 m.f1.length d1, .slice B2 m.f2.length d2, .string m.f3] t (0, 0))) (h1 : (Kd.int .i64).C w A1 n.f1.length n.f1) (h1c : n.f1.length ≤ c1) (h2 : k31.C w A2 n.f2.length n.f2) (h2c : n.f2.length ≤ c2) (i1 : (Kd.int .i64).C w B1 m.f1.length m.f1) (i1c : m.f1.length ≤ d1) (i2 : k31.C w B2 m.f2.length m.f2) (i2c : m.f2.length ≤ d2) :
    k31.C w (some ⟨g, 0, none⟩) [n, m].length [n, m] := C_of_block k31 h (by simp) (((Reps.none _ _).snoc (k31_mk w n h1c h1 h2c h2) rfl).snoc (k31_mk w m i1c i1 i2c i2) rfl)
set_option maxHeartbeats 8000000 in
set_option maxRecDepth 100000 in
theorem DueK.calls (k : Nat) (A0 : Option Addr) (c0 : Nat) (l : List S48) (n m : S31) (A1 : Option Addr) (c1 : Nat) (A2 : Option Addr) (c2 : Nat) (B1 : Option Addr) (d1 : Nat) (B2 : Option Addr) (d2 : Nat) (dir day : Int) (r1 : Bool) (r2 : Int) (w : World) (hr0 : Kd.C k48 w A0 l.length l) (hc0 : l.length ≤ c0)
    (h1 : (Kd.int .i64).C w A1 n.f1.length n.f1) (h1c : n.f1.length ≤ c1) (h2 : k31.C w A2 n.f2.length n.f2) (h2c : n.f2.length ≤ c2) (i1 : (Kd.int .i64).C w B1 m.f1.length m.f1) (i1c : m.f1.length ≤ d1) (i2 : k31.C w B2 m.f2.length m.f2) (i2c : m.f2.length ≤ d2) (hg : GOK w) (h : DueK.f k l n m dir day = some (r1, r2)) :
    Calls Tryd.prog 13 #[.slice A0 l.length c0, .agg #[.int .i64 n.f0, .slice A1 n.f1.length c1, .slice A2 n.f2.length c2, .string n.f3], .agg #[.int .i64 m.f0, .slice B1 m.f1.length d1, .slice B2 m.f2.length d2, .string m.f3], .int .i64 dir, .int .i64 day] w fun e w' => e = .returned (.tuple #[.bool r1, .int .i64 r2]) ∧ Below w.heap.size w w' := by
  unfold DueK.f at h
  obtain ⟨r, hop, h⟩ := Option.bind_eq_some_iff.mp h
  go_enter Tryd.func13, Tryd.ntmps13
  go_wp2_with (fail)
  obtain ⟨hb, kn, kp⟩ := node_base w (.cells #[.int .i64 n.f0, .slice A1 n.f1.length c1, .slice A2 n.f2.length c2, .string n.f3] 31 (0, 0)) (.cells #[.int .i64 m.f0, .slice B1 m.f1.length d1, .slice B2 m.f2.length d2, .string m.f3] 31 (0, 0))
  have ksl : (((w.alloc (.cells #[.int .i64 n.f0, .slice A1 n.f1.length c1, .slice A2 n.f2.length c2, .string n.f3] 31 (0, 0))).alloc (.cells #[.int .i64 m.f0, .slice B1 m.f1.length d1, .slice B2 m.f2.length d2, .string m.f3] 31 (0, 0))).alloc (.cells #[.int .i64 n.f0, .slice A1 n.f1.length c1, .slice A2 n.f2.length c2, .string n.f3, .int .i64 m.f0, .slice B1 m.f1.length d1, .slice B2 m.f2.length d2, .string m.f3] 31 (0, 0))).heap[w.heap.size + 2]? = some (.cells #[.int .i64 n.f0, .slice A1 n.f1.length c1, .slice A2 n.f2.length c2, .string n.f3, .int .i64 m.f0, .slice B1 m.f1.length d1, .slice B2 m.f2.length d2, .string m.f3] 31 (0, 0)) := by
    have := blk_new ((w.alloc (.cells #[.int .i64 n.f0, .slice A1 n.f1.length c1, .slice A2 n.f2.length c2, .string n.f3] 31 (0, 0))).alloc (.cells #[.int .i64 m.f0, .slice B1 m.f1.length d1, .slice B2 m.f2.length d2, .string m.f3] 31 (0, 0))) (.cells #[.int .i64 n.f0, .slice A1 n.f1.length c1, .slice A2 n.f2.length c2, .string n.f3, .int .i64 m.f0, .slice B1 m.f1.length d1, .slice B2 m.f2.length d2, .string m.f3] 31 (0, 0))
    rwa [show ((w.alloc (.cells #[.int .i64 n.f0, .slice A1 n.f1.length c1, .slice A2 n.f2.length c2, .string n.f3] 31 (0, 0))).alloc (.cells #[.int .i64 m.f0, .slice B1 m.f1.length d1, .slice B2 m.f2.length d2, .string m.f3] 31 (0, 0))).heap.size = w.heap.size + 2 from by simp] at this
  replace kn := blk_alloc kn (.cells #[.int .i64 n.f0, .slice A1 n.f1.length c1, .slice A2 n.f2.length c2, .string n.f3, .int .i64 m.f0, .slice B1 m.f1.length d1, .slice B2 m.f2.length d2, .string m.f3] 31 (0, 0))
  replace kp := blk_alloc kp (.cells #[.int .i64 n.f0, .slice A1 n.f1.length c1, .slice A2 n.f2.length c2, .string n.f3, .int .i64 m.f0, .slice B1 m.f1.length d1, .slice B2 m.f2.length d2, .string m.f3] 31 (0, 0))
  replace hb := below_alloc hb (.cells #[.int .i64 n.f0, .slice A1 n.f1.length c1, .slice A2 n.f2.length c2, .string n.f3, .int .i64 m.f0, .slice B1 m.f1.length d1, .slice B2 m.f2.length d2, .string m.f3] 31 (0, 0))
  obtain ⟨W, hW⟩ : ∃ W, W = ((w.alloc (.cells #[.int .i64 n.f0, .slice A1 n.f1.length c1, .slice A2 n.f2.length c2, .string n.f3] 31 (0, 0))).alloc (.cells #[.int .i64 m.f0, .slice B1 m.f1.length d1, .slice B2 m.f2.length d2, .string m.f3] 31 (0, 0))).alloc (.cells #[.int .i64 n.f0, .slice A1 n.f1.length c1, .slice A2 n.f2.length c2, .string n.f3, .int .i64 m.f0, .slice B1 m.f1.length d1, .slice B2 m.f2.length d2, .string m.f3] 31 (0, 0)) := ⟨_, rfl⟩
  rw [← hW] at hb kn kp ksl ⊢
  clear hW
  have hopen := fun (W' : World) (hW : Below W.heap.size W W') => cal_open.calls k k A0 c0 l day (some ⟨w.heap.size + 2, 0, none⟩) 2 [n, m] r W' (Kd.C_below (Kd.C_below hr0 hb) hW) hc0 (Kd.C_below (two_nodes n m ksl (Kd.C_below h1 hb) h1c (Kd.C_below h2 hb) h2c (Kd.C_below i1 hb) i1c (Kd.C_below i2 hb) i2c) hW) (by simp) hop
  have HKN := Aside0.mk kn
  have HKP := Aside0.mk kp
  have HB := Aside0.mk hb
  have HG := Aside0.mk (GOK.below hg hb)
  have G0 := Aside0.mk (Kd.C_below hr0 hb)
  have H1 := Aside0.mk (Kd.C_below h1 hb)
  have H2 := Aside0.mk (Kd.C_below h2 hb)
  have I1 := Aside0.mk (Kd.C_below i1 hb)
  have I2 := Aside0.mk (Kd.C_below i2 hb)
  have HOP := Aside0.mk hop
  have H := Aside0.mk h
  clear hr0 h1 h2 i1 i2 hg kn kp ksl hb hop h
  refine (hopen _ (Below.refl _ _)).mono ?_
  rintro e w1 ⟨hpost, hb1⟩
  clear hopen
  rcases hpost with ⟨rfl, bb, mb, met, rfl, hbk, hmp, hbb, hmb, hne⟩ | ⟨hr, rfl⟩
  rotate_left
  · have h := H.out
    rw [if_neg hr] at h
    obtain ⟨rfl, rfl⟩ := Prod.mk.inj (Option.some.inj h)
    have hrb : (r != 0) = true := bne_iff_ne.mpr hr
    have HB1 := Aside0.mk hb1
    clear h H hr HOP hb1
    go_wp2
    go_ret2
    exact ⟨rfl, HB.out.trans (HB1.out.mono HB.out.size)⟩
  have h := H.out
  rw [if_pos rfl] at h
  have HB1 := Aside0.mk hb1
  have HMB := Aside0.mk hmb
  by_cases q1 : dir < -1
  · rw [if_pos q1] at h
    obtain ⟨rfl, rfl⟩ := Prod.mk.inj (Option.some.inj h)
    have q1b : decide (dir < -1) = true := decide_eq_true q1
    clear h H HOP hbk hmp hbb hmb hne hb1 q1
    go_wp2
    go_ret2
    exact ⟨rfl, HB.out.trans (HB1.out.mono HB.out.size)⟩
  rw [if_neg q1] at h
  have q1b : decide (dir < -1) = false := decide_eq_false q1
  by_cases q2 : dir > 1
  · rw [if_pos q2] at h
    obtain ⟨rfl, rfl⟩ := Prod.mk.inj (Option.some.inj h)
    have q2b : decide (1 < dir) = true := decide_eq_true q2
    clear h H HOP hbk hmp hbb hmb hne hb1 q1 q2
    go_wp2
    go_ret2
    exact ⟨rfl, HB.out.trans (HB1.out.mono HB.out.size)⟩
  rw [if_neg q2] at h
  have q2b : decide (1 < dir) = false := decide_eq_false q2
  obtain ⟨b, hin, h⟩ := Option.bind_eq_some_iff.mp h
  have hbook := new_book G0.out hc0 (open_len HOP.out (by simp)) HG.out hb1 hbk hmp hbb hmb hne
  have hcall := in.calls k l A0 c0 bb mb met W w1 m B1 d1 B2 d2 day b hbook I1.out i1c I2.out i2c hin
  have hnm : ∀ j : Nat, mb ≠ j ∨ W.heap.size ≤ j := fun j => by by_cases e : mb = j; exact .inr (e ▸ hmb); exact .inl e
  have HWK : Aside0 (KB (fun j => j = mb) W w1) := ⟨KB.of_below hb1⟩
  have HS : Aside0 (∀ W' : World, KB (fun j => j = mb) W W' → W'.cell? ⟨w.heap.size, 0, none⟩ = some (.int .i64 n.f0) ∧ W'.cell? ⟨w.heap.size, 1, none⟩ = some (.slice A1 n.f1.length c1) ∧ W'.cell? ⟨w.heap.size, 2, none⟩ = some (.slice A2 n.f2.length c2) ∧ W'.cell? ⟨w.heap.size, 3, none⟩ = some (.string n.f3) ∧ W'.cell? ⟨w.heap.size + 1, 0, none⟩ = some (.int .i64 m.f0) ∧ W'.cell? ⟨w.heap.size + 1, 1, none⟩ = some (.slice B1 m.f1.length d1) ∧ W'.cell? ⟨w.heap.size + 1, 2, none⟩ = some (.slice B2 m.f2.length d2) ∧ W'.cell? ⟨w.heap.size + 1, 3, none⟩ = some (.string m.f3)) := by
    constructor
    intro W' hW'
    have b_ : ∀ {q : Nat} {o : Obj} (hq : W.heap[q]? = some o) (j : Nat), W'.cell? ⟨q, j, none⟩ = W.cell? ⟨q, j, none⟩ := fun {q o} hq j => World.cell?_of_block (w := W) (hW'.block q (blk_lt hq) (by have := blk_lt hq; have := HMB.out; omega))
    have kn := HKN.out
    have kp := HKP.out
    exact ⟨(b_ kn 0).trans (blk_cell kn 0), (b_ kn 1).trans (blk_cell kn 1), (b_ kn 2).trans (blk_cell kn 2), (b_ kn 3).trans (blk_cell kn 3), (b_ kp 0).trans (blk_cell kp 0), (b_ kp 1).trans (blk_cell kp 1), (b_ kp 2).trans (blk_cell kp 2), (b_ kp 3).trans (blk_cell kp 3)⟩
  obtain ⟨p0, p1, p2, p3, q0, q1', q2', q3⟩ := HS.out w1 HWK.out
  have HEW := Aside0.mk hbook
  have HH := Aside0.mk h
  clear hin hbook hbk hmp hbb hmb hne H HOP hb1 q1 q2 h hnm
  cases b with
  | false =>
    have h := HH.out
    simp at h
    obtain ⟨rfl, rfl⟩ := h
    clear HH
    go_wp2_with (go_at_call 15; refine hcall.mono ?_; rintro e w2 ⟨rfl, hk2, hm2⟩)
    go_ret2
    exact ⟨rfl, hk2.below (HB.out.trans (HB1.out.mono HB.out.size)) (fun j e => e ▸ (Nat.le_trans HB.out.size HMB.out))⟩
  | true =>
    have h := HH.out
    simp only [if_true] at h
    have HA := Aside0.mk h
    clear h HH
    go_wp2_with (go_at_call 15; refine hcall.mono ?_; rintro e w2 ⟨rfl, hk2, hm2⟩; have HK2 := Aside0.mk hk2; have HM2 := Aside0.mk hm2; clear hk2 hm2)
    clear hcall p0 p1 p2 p3 q0 q1' q2' q3
    go_loopg [14] k (fun kq v14 w' => ∃ (d : Int), v14 = .int .i64 d ∧ Aside0 (Due.l0 kq l n m dir day d = some (r1, r2)) ∧ Aside0 (KB (fun j => j = mb) w1 w') ∧ Aside0 (Memo l LL FF mb w'))
    case atStart => exact ⟨day, rfl, HA, HK2, HM2⟩
    case round =>
      clear HA
      obtain ⟨d, rfl, HA, HK, HM⟩ := hrel
      have HFIN : Aside0 (∀ w' : World, KB (fun j => j = mb) w1 w' → Below w.heap.size w w') := ⟨fun w' h => h.below (HB.out.trans (HB1.out.mono HB.out.size)) (fun j e => e ▸ (Nat.le_trans HB.out.size HMB.out))⟩
      have HS1 : Aside0 (∀ W' : World, KB (fun j => j = mb) w1 W' → KB (fun j => j = mb) W W') := ⟨fun W' h => HWK.out.trans h (fun j h => .inl h)⟩
      obtain ⟨p0, p1, p2, p3, q0, q1, q2, q3⟩ := HS.out wr (HS1.out _ HK.out)
      cases gk with
      | zero => exact absurd HA.out (by simp [Due.l0])
      | succ k1 =>
        have H := HA.out
        clear HA
        rw [Due.l0.eq_2] at H
        obtain ⟨b, hb, H⟩ := Option.bind_eq_some_iff.mp H
        have hright := fun (W' : World) => date_Right.calls d b W' hb
        cases b with
        | false =>
          rw [if_neg (by decide)] at H
          obtain ⟨rfl, rfl⟩ := Prod.mk.inj (Option.some.inj H)
          clear H hb
          go_wp2_with (go_at_call 19; refine (hright _).mono ?_; rintro e w2 ⟨rfl, hb1⟩)
          go_ret2
          exact ⟨rfl, HFIN.out _ (HK.out.drawn hb1)⟩
        | true =>
          rw [if_pos rfl] at H
          clear hb
          unfold mx at H
          by_cases z0 : wrap64 (d - day) < wrap64 (day - d)
          · rw [if_pos z0] at H
            have z0b : decide (wrap64 (d - day) < wrap64 (day - d)) = true := decide_eq_true z0
            replace z0 := eq_true z0
            by_cases z1 : wrap64 (day - d) ≤ 10
            rotate_left
            · rw [if_neg z1] at H
              obtain ⟨rfl, rfl⟩ := Prod.mk.inj (Option.some.inj H)
              have z1b : decide (wrap64 (day - d) ≤ 10) = false := decide_eq_false z1
              clear H z1
              go_wp2_with (first | (go_at_call 19; refine (hright _).mono ?_; rintro e w2 ⟨rfl, hb1⟩; have kb2 := HK.out.drawn hb1; have mm2 := HM.out.go hb1.below; clear p0 p1 p2 p3 q0 q1 q2 q3 hb1; obtain ⟨p0, p1, p2, p3, q0, q1, q2, q3⟩ := HS.out w2 (HS1.out _ kb2); have KB2 := Aside0.mk kb2; have MM2 := Aside0.mk mm2; clear kb2 mm2))
              go_ret2
              exact ⟨rfl, HFIN.out _ KB2.out⟩
            rw [if_pos z1] at H
            have z1b : decide (wrap64 (day - d) ≤ 10) = true := decide_eq_true z1
            clear z1
            by_cases z2 : d = day
            · rw [if_pos z2] at H
              have z2b : (d != day) = false := bne_eq_false_iff_eq.mpr z2
              have Z2 := Aside0.mk z2
              clear z2
              obtain ⟨c, hin, H⟩ := Option.bind_eq_some_iff.mp H
              have hcn := fun (W' : World) (hK : KB (fun j => j = mb) w1 W') (hM : Memo l LL FF mb W') => in.calls k1 l A0 c0 bb mb met W W' n A1 c1 A2 c2 d c (HEW.out.turn hK hM) H1.out h1c H2.out h2c hin
              cases c with
              | true =>
                rw [if_pos rfl] at H
                obtain ⟨rfl, rfl⟩ := Prod.mk.inj (Option.some.inj H)
                clear H hin
                go_wp2_with (first | (go_at_call 19; refine (hright _).mono ?_; rintro e w2 ⟨rfl, hb1⟩; have kb2 := HK.out.drawn hb1; have mm2 := HM.out.go hb1.below; clear p0 p1 p2 p3 q0 q1 q2 q3 hb1; obtain ⟨p0, p1, p2, p3, q0, q1, q2, q3⟩ := HS.out w2 (HS1.out _ kb2); have KB2 := Aside0.mk kb2; have MM2 := Aside0.mk mm2; clear kb2 mm2) | (go_at_call 15; refine (hcn _ KB2.out MM2.out).mono ?_; rintro e w3 ⟨rfl, hk3, hm3⟩; have kb3 := KB2.out.trans hk3 (fun j h => .inl h); clear hk3))
                go_ret2
                exact ⟨rfl, HFIN.out _ kb3⟩
              | false =>
                rw [if_neg (by decide)] at H
                by_cases z : dir = 0
                · rw [if_pos z] at H
                  obtain ⟨rfl, rfl⟩ := Prod.mk.inj (Option.some.inj H)
                  have zb : (dir == 0) = true := beq_iff_eq.mpr z
                  clear H hin z
                  go_wp2_with (first | (go_at_call 19; refine (hright _).mono ?_; rintro e w2 ⟨rfl, hb1⟩; have kb2 := HK.out.drawn hb1; have mm2 := HM.out.go hb1.below; clear p0 p1 p2 p3 q0 q1 q2 q3 hb1; obtain ⟨p0, p1, p2, p3, q0, q1, q2, q3⟩ := HS.out w2 (HS1.out _ kb2); have KB2 := Aside0.mk kb2; have MM2 := Aside0.mk mm2; clear kb2 mm2) | (go_at_call 15; refine (hcn _ KB2.out MM2.out).mono ?_; rintro e w3 ⟨rfl, hk3, hm3⟩; have kb3 := KB2.out.trans hk3 (fun j h => .inl h); clear hk3))
                  go_ret2
                  exact ⟨rfl, HFIN.out _ kb3⟩
                · rw [if_neg z] at H
                  have zb : (dir == 0) = false := beq_eq_false_iff_ne.mpr z
                  have HN := Aside0.mk H
                  clear H hin z
                  go_wp2_with (first | (go_at_call 19; refine (hright _).mono ?_; rintro e w2 ⟨rfl, hb1⟩; have kb2 := HK.out.drawn hb1; have mm2 := HM.out.go hb1.below; clear p0 p1 p2 p3 q0 q1 q2 q3 hb1; obtain ⟨p0, p1, p2, p3, q0, q1, q2, q3⟩ := HS.out w2 (HS1.out _ kb2); have KB2 := Aside0.mk kb2; have MM2 := Aside0.mk mm2; clear kb2 mm2) | (go_at_call 15; refine (hcn _ KB2.out MM2.out).mono ?_; rintro e w3 ⟨rfl, hk3, hm3⟩; have kb3 := KB2.out.trans hk3 (fun j h => .inl h); clear hk3))
                  go_roundg k1
                  case measure => exact Nat.lt_succ_self _
                  case rel => exact ⟨_, rfl, HN, ⟨kb3⟩, ⟨hm3⟩⟩
            · rw [if_neg z2] at H
              have z2b : (d != day) = true := bne_iff_ne.mpr z2
              obtain ⟨q, hinw, H⟩ := Option.bind_eq_some_iff.mp H
              have hcw := fun (W' : World) (hK : KB (fun j => j = mb) w1 W') (hM : Memo l LL FF mb W') => in.calls k1 l A0 c0 bb mb met W W' m B1 d1 B2 d2 d q (HEW.out.turn hK hM) I1.out i1c I2.out i2c hinw
              clear z2 hinw
              cases q with
              | true =>
                rw [if_pos rfl] at H
                obtain ⟨rfl, rfl⟩ := Prod.mk.inj (Option.some.inj H)
                clear H
                go_wp2_with (first | (go_at_call 19; refine (hright _).mono ?_; rintro e w2 ⟨rfl, hb1⟩; have kb2 := HK.out.drawn hb1; have mm2 := HM.out.go hb1.below; clear p0 p1 p2 p3 q0 q1 q2 q3 hb1; obtain ⟨p0, p1, p2, p3, q0, q1, q2, q3⟩ := HS.out w2 (HS1.out _ kb2); have KB2 := Aside0.mk kb2; have MM2 := Aside0.mk mm2; clear kb2 mm2) | (go_at_call 15; refine (hcw _ KB2.out MM2.out).mono ?_; rintro e w3 ⟨rfl, hk3, hm3⟩; have kb3 := KB2.out.trans hk3 (fun j h => .inl h); clear p0 p1 p2 p3 q0 q1 q2 q3 hk3; obtain ⟨p0, p1, p2, p3, q0, q1, q2, q3⟩ := HS.out w3 (HS1.out _ kb3); have KB3 := Aside0.mk kb3; have MM3 := Aside0.mk hm3; clear kb3 hm3))
                go_ret2
                exact ⟨rfl, HFIN.out _ KB3.out⟩
              | false =>
                rw [if_neg (by decide)] at H
                obtain ⟨c, hin, H⟩ := Option.bind_eq_some_iff.mp H
                have hcn := fun (W' : World) (hK : KB (fun j => j = mb) w1 W') (hM : Memo l LL FF mb W') => in.calls k1 l A0 c0 bb mb met W W' n A1 c1 A2 c2 d c (HEW.out.turn hK hM) H1.out h1c H2.out h2c hin
                cases c with
                | true =>
                  rw [if_pos rfl] at H
                  obtain ⟨rfl, rfl⟩ := Prod.mk.inj (Option.some.inj H)
                  clear H hin
                  go_upto_region 13 with (first | (go_at_call 19; refine (hright _).mono ?_; rintro e w2 ⟨rfl, hb1⟩; have kb2 := HK.out.drawn hb1; have mm2 := HM.out.go hb1.below; clear p0 p1 p2 p3 q0 q1 q2 q3 hb1; obtain ⟨p0, p1, p2, p3, q0, q1, q2, q3⟩ := HS.out w2 (HS1.out _ kb2); have KB2 := Aside0.mk kb2; have MM2 := Aside0.mk mm2; clear kb2 mm2) | (go_at_call 15; refine (hcw _ KB2.out MM2.out).mono ?_; rintro e w3 ⟨rfl, hk3, hm3⟩; have kb3 := KB2.out.trans hk3 (fun j h => .inl h); clear p0 p1 p2 p3 q0 q1 q2 q3 hk3; obtain ⟨p0, p1, p2, p3, q0, q1, q2, q3⟩ := HS.out w3 (HS1.out _ kb3); have KB3 := Aside0.mk kb3; have MM3 := Aside0.mk hm3; clear kb3 hm3))
                  go_wp2_with (first | (go_at_call 15; refine (hcn _ KB3.out MM3.out).mono ?_; rintro e w4 ⟨rfl, hk4, hm4⟩; have kb4 := KB3.out.trans hk4 (fun j h => .inl h); clear hk4))
                  go_ret2
                  exact ⟨rfl, HFIN.out _ kb4⟩
                | false =>
                  rw [if_neg (by decide)] at H
                  by_cases z : dir = 0
                  · rw [if_pos z] at H
                    obtain ⟨rfl, rfl⟩ := Prod.mk.inj (Option.some.inj H)
                    have zb : (dir == 0) = true := beq_iff_eq.mpr z
                    clear H hin z
                    go_upto_region 13 with (first | (go_at_call 19; refine (hright _).mono ?_; rintro e w2 ⟨rfl, hb1⟩; have kb2 := HK.out.drawn hb1; have mm2 := HM.out.go hb1.below; clear p0 p1 p2 p3 q0 q1 q2 q3 hb1; obtain ⟨p0, p1, p2, p3, q0, q1, q2, q3⟩ := HS.out w2 (HS1.out _ kb2); have KB2 := Aside0.mk kb2; have MM2 := Aside0.mk mm2; clear kb2 mm2) | (go_at_call 15; refine (hcw _ KB2.out MM2.out).mono ?_; rintro e w3 ⟨rfl, hk3, hm3⟩; have kb3 := KB2.out.trans hk3 (fun j h => .inl h); clear p0 p1 p2 p3 q0 q1 q2 q3 hk3; obtain ⟨p0, p1, p2, p3, q0, q1, q2, q3⟩ := HS.out w3 (HS1.out _ kb3); have KB3 := Aside0.mk kb3; have MM3 := Aside0.mk hm3; clear kb3 hm3))
                    go_wp2_with (first | (go_at_call 15; refine (hcn _ KB3.out MM3.out).mono ?_; rintro e w4 ⟨rfl, hk4, hm4⟩; have kb4 := KB3.out.trans hk4 (fun j h => .inl h); clear hk4))
                    go_ret2
                    exact ⟨rfl, HFIN.out _ kb4⟩
                  · rw [if_neg z] at H
                    have zb : (dir == 0) = false := beq_eq_false_iff_ne.mpr z
                    have HN := Aside0.mk H
                    clear H hin z
                    go_upto_region 13 with (first | (go_at_call 19; refine (hright _).mono ?_; rintro e w2 ⟨rfl, hb1⟩; have kb2 := HK.out.drawn hb1; have mm2 := HM.out.go hb1.below; clear p0 p1 p2 p3 q0 q1 q2 q3 hb1; obtain ⟨p0, p1, p2, p3, q0, q1, q2, q3⟩ := HS.out w2 (HS1.out _ kb2); have KB2 := Aside0.mk kb2; have MM2 := Aside0.mk mm2; clear kb2 mm2) | (go_at_call 15; refine (hcw _ KB2.out MM2.out).mono ?_; rintro e w3 ⟨rfl, hk3, hm3⟩; have kb3 := KB2.out.trans hk3 (fun j h => .inl h); clear p0 p1 p2 p3 q0 q1 q2 q3 hk3; obtain ⟨p0, p1, p2, p3, q0, q1, q2, q3⟩ := HS.out w3 (HS1.out _ kb3); have KB3 := Aside0.mk kb3; have MM3 := Aside0.mk hm3; clear kb3 hm3))
                    go_wp2_with (first | (go_at_call 15; refine (hcn _ KB3.out MM3.out).mono ?_; rintro e w4 ⟨rfl, hk4, hm4⟩; have kb4 := KB3.out.trans hk4 (fun j h => .inl h); clear hk4))
                    go_roundg k1
                    case measure => exact Nat.lt_succ_self _
                    case rel => exact ⟨_, rfl, HN, ⟨kb4⟩, ⟨hm4⟩⟩
          · rw [if_neg z0] at H
            have z0b : decide (wrap64 (d - day) < wrap64 (day - d)) = false := decide_eq_false z0
            replace z0 := eq_false z0
            by_cases z1 : wrap64 (d - day) ≤ 10
            rotate_left
            · rw [if_neg z1] at H
              obtain ⟨rfl, rfl⟩ := Prod.mk.inj (Option.some.inj H)
              have z1b : decide (wrap64 (d - day) ≤ 10) = false := decide_eq_false z1
              clear H z1
              go_wp2_with (first | (go_at_call 19; refine (hright _).mono ?_; rintro e w2 ⟨rfl, hb1⟩; have kb2 := HK.out.drawn hb1; have mm2 := HM.out.go hb1.below; clear p0 p1 p2 p3 q0 q1 q2 q3 hb1; obtain ⟨p0, p1, p2, p3, q0, q1, q2, q3⟩ := HS.out w2 (HS1.out _ kb2); have KB2 := Aside0.mk kb2; have MM2 := Aside0.mk mm2; clear kb2 mm2))
              go_ret2
              exact ⟨rfl, HFIN.out _ KB2.out⟩
            rw [if_pos z1] at H
            have z1b : decide (wrap64 (d - day) ≤ 10) = true := decide_eq_true z1
            clear z1
            by_cases z2 : d = day
            · rw [if_pos z2] at H
              have z2b : (d != day) = false := bne_eq_false_iff_eq.mpr z2
              have Z2 := Aside0.mk z2
              clear z2
              obtain ⟨c, hin, H⟩ := Option.bind_eq_some_iff.mp H
              have hcn := fun (W' : World) (hK : KB (fun j => j = mb) w1 W') (hM : Memo l LL FF mb W') => in.calls k1 l A0 c0 bb mb met W W' n A1 c1 A2 c2 d c (HEW.out.turn hK hM) H1.out h1c H2.out h2c hin
              cases c with
              | true =>
                rw [if_pos rfl] at H
                obtain ⟨rfl, rfl⟩ := Prod.mk.inj (Option.some.inj H)
                clear H hin
                go_wp2_with (first | (go_at_call 19; refine (hright _).mono ?_; rintro e w2 ⟨rfl, hb1⟩; have kb2 := HK.out.drawn hb1; have mm2 := HM.out.go hb1.below; clear p0 p1 p2 p3 q0 q1 q2 q3 hb1; obtain ⟨p0, p1, p2, p3, q0, q1, q2, q3⟩ := HS.out w2 (HS1.out _ kb2); have KB2 := Aside0.mk kb2; have MM2 := Aside0.mk mm2; clear kb2 mm2) | (go_at_call 15; refine (hcn _ KB2.out MM2.out).mono ?_; rintro e w3 ⟨rfl, hk3, hm3⟩; have kb3 := KB2.out.trans hk3 (fun j h => .inl h); clear hk3))
                go_ret2
                exact ⟨rfl, HFIN.out _ kb3⟩
              | false =>
                rw [if_neg (by decide)] at H
                by_cases z : dir = 0
                · rw [if_pos z] at H
                  obtain ⟨rfl, rfl⟩ := Prod.mk.inj (Option.some.inj H)
                  have zb : (dir == 0) = true := beq_iff_eq.mpr z
                  clear H hin z
                  go_wp2_with (first | (go_at_call 19; refine (hright _).mono ?_; rintro e w2 ⟨rfl, hb1⟩; have kb2 := HK.out.drawn hb1; have mm2 := HM.out.go hb1.below; clear p0 p1 p2 p3 q0 q1 q2 q3 hb1; obtain ⟨p0, p1, p2, p3, q0, q1, q2, q3⟩ := HS.out w2 (HS1.out _ kb2); have KB2 := Aside0.mk kb2; have MM2 := Aside0.mk mm2; clear kb2 mm2) | (go_at_call 15; refine (hcn _ KB2.out MM2.out).mono ?_; rintro e w3 ⟨rfl, hk3, hm3⟩; have kb3 := KB2.out.trans hk3 (fun j h => .inl h); clear hk3))
                  go_ret2
                  exact ⟨rfl, HFIN.out _ kb3⟩
                · rw [if_neg z] at H
                  have zb : (dir == 0) = false := beq_eq_false_iff_ne.mpr z
                  have HN := Aside0.mk H
                  clear H hin z
                  go_wp2_with (first | (go_at_call 19; refine (hright _).mono ?_; rintro e w2 ⟨rfl, hb1⟩; have kb2 := HK.out.drawn hb1; have mm2 := HM.out.go hb1.below; clear p0 p1 p2 p3 q0 q1 q2 q3 hb1; obtain ⟨p0, p1, p2, p3, q0, q1, q2, q3⟩ := HS.out w2 (HS1.out _ kb2); have KB2 := Aside0.mk kb2; have MM2 := Aside0.mk mm2; clear kb2 mm2) | (go_at_call 15; refine (hcn _ KB2.out MM2.out).mono ?_; rintro e w3 ⟨rfl, hk3, hm3⟩; have kb3 := KB2.out.trans hk3 (fun j h => .inl h); clear hk3))
                  go_roundg k1
                  case measure => exact Nat.lt_succ_self _
                  case rel => exact ⟨_, rfl, HN, ⟨kb3⟩, ⟨hm3⟩⟩
            · rw [if_neg z2] at H
              have z2b : (d != day) = true := bne_iff_ne.mpr z2
              obtain ⟨q, hinw, H⟩ := Option.bind_eq_some_iff.mp H
              have hcw := fun (W' : World) (hK : KB (fun j => j = mb) w1 W') (hM : Memo l LL FF mb W') => in.calls k1 l A0 c0 bb mb met W W' m B1 d1 B2 d2 d q (HEW.out.turn hK hM) I1.out i1c I2.out i2c hinw
              clear z2 hinw
              cases q with
              | true =>
                rw [if_pos rfl] at H
                obtain ⟨rfl, rfl⟩ := Prod.mk.inj (Option.some.inj H)
                clear H
                go_wp2_with (first | (go_at_call 19; refine (hright _).mono ?_; rintro e w2 ⟨rfl, hb1⟩; have kb2 := HK.out.drawn hb1; have mm2 := HM.out.go hb1.below; clear p0 p1 p2 p3 q0 q1 q2 q3 hb1; obtain ⟨p0, p1, p2, p3, q0, q1, q2, q3⟩ := HS.out w2 (HS1.out _ kb2); have KB2 := Aside0.mk kb2; have MM2 := Aside0.mk mm2; clear kb2 mm2) | (go_at_call 15; refine (hcw _ KB2.out MM2.out).mono ?_; rintro e w3 ⟨rfl, hk3, hm3⟩; have kb3 := KB2.out.trans hk3 (fun j h => .inl h); clear p0 p1 p2 p3 q0 q1 q2 q3 hk3; obtain ⟨p0, p1, p2, p3, q0, q1, q2, q3⟩ := HS.out w3 (HS1.out _ kb3); have KB3 := Aside0.mk kb3; have MM3 := Aside0.mk hm3; clear kb3 hm3))
                go_ret2
                exact ⟨rfl, HFIN.out _ KB3.out⟩
              | false =>
                rw [if_neg (by decide)] at H
                obtain ⟨c, hin, H⟩ := Option.bind_eq_some_iff.mp H
                have hcn := fun (W' : World) (hK : KB (fun j => j = mb) w1 W') (hM : Memo l LL FF mb W') => in.calls k1 l A0 c0 bb mb met W W' n A1 c1 A2 c2 d c (HEW.out.turn hK hM) H1.out h1c H2.out h2c hin
                cases c with
                | true =>
                  rw [if_pos rfl] at H
                  obtain ⟨rfl, rfl⟩ := Prod.mk.inj (Option.some.inj H)
                  clear H hin
                  go_upto_region 13 with (first | (go_at_call 19; refine (hright _).mono ?_; rintro e w2 ⟨rfl, hb1⟩; have kb2 := HK.out.drawn hb1; have mm2 := HM.out.go hb1.below; clear p0 p1 p2 p3 q0 q1 q2 q3 hb1; obtain ⟨p0, p1, p2, p3, q0, q1, q2, q3⟩ := HS.out w2 (HS1.out _ kb2); have KB2 := Aside0.mk kb2; have MM2 := Aside0.mk mm2; clear kb2 mm2) | (go_at_call 15; refine (hcw _ KB2.out MM2.out).mono ?_; rintro e w3 ⟨rfl, hk3, hm3⟩; have kb3 := KB2.out.trans hk3 (fun j h => .inl h); clear p0 p1 p2 p3 q0 q1 q2 q3 hk3; obtain ⟨p0, p1, p2, p3, q0, q1, q2, q3⟩ := HS.out w3 (HS1.out _ kb3); have KB3 := Aside0.mk kb3; have MM3 := Aside0.mk hm3; clear kb3 hm3))
                  go_wp2_with (first | (go_at_call 15; refine (hcn _ KB3.out MM3.out).mono ?_; rintro e w4 ⟨rfl, hk4, hm4⟩; have kb4 := KB3.out.trans hk4 (fun j h => .inl h); clear hk4))
                  go_ret2
                  exact ⟨rfl, HFIN.out _ kb4⟩
                | false =>
                  rw [if_neg (by decide)] at H
                  by_cases z : dir = 0
                  · rw [if_pos z] at H
                    obtain ⟨rfl, rfl⟩ := Prod.mk.inj (Option.some.inj H)
                    have zb : (dir == 0) = true := beq_iff_eq.mpr z
                    clear H hin z
                    go_upto_region 13 with (first | (go_at_call 19; refine (hright _).mono ?_; rintro e w2 ⟨rfl, hb1⟩; have kb2 := HK.out.drawn hb1; have mm2 := HM.out.go hb1.below; clear p0 p1 p2 p3 q0 q1 q2 q3 hb1; obtain ⟨p0, p1, p2, p3, q0, q1, q2, q3⟩ := HS.out w2 (HS1.out _ kb2); have KB2 := Aside0.mk kb2; have MM2 := Aside0.mk mm2; clear kb2 mm2) | (go_at_call 15; refine (hcw _ KB2.out MM2.out).mono ?_; rintro e w3 ⟨rfl, hk3, hm3⟩; have kb3 := KB2.out.trans hk3 (fun j h => .inl h); clear p0 p1 p2 p3 q0 q1 q2 q3 hk3; obtain ⟨p0, p1, p2, p3, q0, q1, q2, q3⟩ := HS.out w3 (HS1.out _ kb3); have KB3 := Aside0.mk kb3; have MM3 := Aside0.mk hm3; clear kb3 hm3))
                    go_wp2_with (first | (go_at_call 15; refine (hcn _ KB3.out MM3.out).mono ?_; rintro e w4 ⟨rfl, hk4, hm4⟩; have kb4 := KB3.out.trans hk4 (fun j h => .inl h); clear hk4))
                    go_ret2
                    exact ⟨rfl, HFIN.out _ kb4⟩
                  · rw [if_neg z] at H
                    have zb : (dir == 0) = false := beq_eq_false_iff_ne.mpr z
                    have HN := Aside0.mk H
                    clear H hin z
                    go_upto_region 13 with (first | (go_at_call 19; refine (hright _).mono ?_; rintro e w2 ⟨rfl, hb1⟩; have kb2 := HK.out.drawn hb1; have mm2 := HM.out.go hb1.below; clear p0 p1 p2 p3 q0 q1 q2 q3 hb1; obtain ⟨p0, p1, p2, p3, q0, q1, q2, q3⟩ := HS.out w2 (HS1.out _ kb2); have KB2 := Aside0.mk kb2; have MM2 := Aside0.mk mm2; clear kb2 mm2) | (go_at_call 15; refine (hcw _ KB2.out MM2.out).mono ?_; rintro e w3 ⟨rfl, hk3, hm3⟩; have kb3 := KB2.out.trans hk3 (fun j h => .inl h); clear p0 p1 p2 p3 q0 q1 q2 q3 hk3; obtain ⟨p0, p1, p2, p3, q0, q1, q2, q3⟩ := HS.out w3 (HS1.out _ kb3); have KB3 := Aside0.mk kb3; have MM3 := Aside0.mk hm3; clear kb3 hm3))
                    go_wp2_with (first | (go_at_call 15; refine (hcn _ KB3.out MM3.out).mono ?_; rintro e w4 ⟨rfl, hk4, hm4⟩; have kb4 := KB3.out.trans hk4 (fun j h => .inl h); clear hk4))
                    go_roundg k1
                    case measure => exact Nat.lt_succ_self _
                    case rel => exact ⟨_, rfl, HN, ⟨kb4⟩, ⟨hm4⟩⟩
def cal_Due.f (k : Nat) (l : List S48) (a0 : Int) (l1 : List Int) (l2 : List S31) (a3 : ByteArray) (b0 : Int) (m1 : List Int) (m2 : List S31) (b3 : ByteArray) (dir day : Int) : Option (Bool × Int) := DueK.f k l ⟨a0, l1, l2, a3⟩ ⟨b0, m1, m2, b3⟩ dir day
theorem cal_Due.mono : ∀ l a0 l1 l2 a3 b0 m1 m2 b3 dir day k, LeO (cal_Due.f k l a0 l1 l2 a3 b0 m1 m2 b3 dir day) (cal_Due.f (k + 1) l a0 l1 l2 a3 b0 m1 m2 b3 dir day) := fun l a0 l1 l2 a3 b0 m1 m2 b3 dir day k => DueK.mono l ⟨a0, l1, l2, a3⟩ ⟨b0, m1, m2, b3⟩ dir day k
theorem cal_Due.calls (k : Nat) (A0 : Option Addr) (c0 : Nat) (l0 : List (S48)) (a1_0 : Int) (A1_1 : Option Addr) (c1_1 : Nat) (l1_1 : List Int) (A1_2 : Option Addr) (c1_2 : Nat) (l1_2 : List (S31)) (a1_3 : ByteArray) (a2_0 : Int) (A2_1 : Option Addr) (c2_1 : Nat) (l2_1 : List Int) (A2_2 : Option Addr) (c2_2 : Nat) (l2_2 : List (S31)) (a2_3 : ByteArray) (a3 : Int) (a4 : Int) (r1 : Bool) (r2 : Int) (w : World) (hr0 : Kd.C k48 w A0 l0.length l0) (hc0 : l0.length ≤ c0) (hr1_1 : Kd.C (Kd.int .i64) w A1_1 l1_1.length l1_1) (hc1_1 : l1_1.length ≤ c1_1) (hr1_2 : Kd.C k31 w A1_2 l1_2.length l1_2) (hc1_2 : l1_2.length ≤ c1_2) (hr2_1 : Kd.C (Kd.int .i64) w A2_1 l2_1.length l2_1) (hc2_1 : l2_1.length ≤ c2_1) (hr2_2 : Kd.C k31 w A2_2 l2_2.length l2_2) (hc2_2 : l2_2.length ≤ c2_2) (hg : GOK w) (h : cal_Due.f k l0 a1_0 l1_1 l1_2 a1_3 a2_0 l2_1 l2_2 a2_3 a3 a4 = some (r1, r2)) :
    Calls Tryd.prog 13 #[.slice A0 l0.length c0, .agg #[.int .i64 a1_0, .slice A1_1 l1_1.length c1_1, .slice A1_2 l1_2.length c1_2, .string a1_3], .agg #[.int .i64 a2_0, .slice A2_1 l2_1.length c2_1, .slice A2_2 l2_2.length c2_2, .string a2_3], .int .i64 a3, .int .i64 a4] w fun e w' => e = .returned (.tuple #[.bool r1, .int .i64 r2]) ∧ Below w.heap.size w w' :=
  DueK.calls k A0 c0 l0 ⟨a1_0, l1_1, l1_2, a1_3⟩ ⟨a2_0, l2_1, l2_2, a2_3⟩ A1_1 c1_1 A1_2 c1_2 A2_1 c2_1 A2_2 c2_2 a3 a4 r1 r2 w hr0 hc0 hr1_1 hc1_1 hr1_2 hc1_2 hr2_1 hc2_1 hr2_2 hc2_2 hg h

-- NOT PRINTED: function 6 (dayshiftlaw06_CalMoved)

end Go.Proofs.YtpcjbnaggeiaoaaDoor.PCalMoved
