/- The law's own text, walked: it comes to true, if what its calls come to is as it says. Each theorem names its own conditions. -/
import Derived.Test.YtpcjbnaggeiaoaaDoorPCalMovedx

namespace Go.Proofs.YtpcjbnaggeiaoaaDoor.PCalMoved
open Go.RowKit Go.Proofs.YtpcjbnaggeiaoaaDoorW.PrintWords Go.Proofs.YtpcjbnaggeiaoaaDoorW.PrintLast Go.Proofs.YtpcjbnaggeiaoaaDoorW.PrintMore
set_option linter.unusedVariables false
set_option linter.unusedSimpArgs false
theorem C_take_ {α : Type} {k : Kd α} {w : World} {A : Option Addr} {xs : List α} {m : Nat} (h : k.C w A xs.length xs) (hm : m ≤ xs.length) : k.C w A (xs.take m).length (xs.take m) := by
  have hl : (xs.take m).length = m := by rw [List.length_take]; omega
  refine ⟨rfl, by rw [hl]; have := h.2.1; omega, fun hp => ?_⟩
  obtain ⟨ad, e, hc⟩ := h.2.2 (by omega)
  refine ⟨ad, e, fun j p hj => hc j p ?_⟩
  rw [List.getElem?_take] at hj
  split at hj
  · exact hj
  · cases hj
set_option maxHeartbeats 8000000 in
set_option maxRecDepth 100000 in
theorem sets_walk (k : Nat) (A0 : Option Addr) (c0 : Nat) (l : List S46) (n m : S26) (A1 : Option Addr) (c1 : Nat) (A2 : Option Addr) (c2 : Nat) (B1 : Option Addr) (d1 : Nat) (B2 : Option Addr) (d2 : Nat) (day : Int) (w : World)
    (hl : Kd.C k46 w A0 l.length l) (hlc : l.length ≤ c0) (h1 : (Kd.int .i64).C w A1 n.f1.length n.f1) (h1c : n.f1.length ≤ c1) (h2 : k26.C w A2 n.f2.length n.f2) (h2c : n.f2.length ≤ c2) (i1 : (Kd.int .i64).C w B1 m.f1.length m.f1) (i1c : m.f1.length ≤ d1) (i2 : k26.C w B2 m.f2.length m.f2) (i2c : m.f2.length ≤ d2) (hg : GOK w)
    (lc : List S48) (x y : S31) (a b p q r : Bool) (e f g h i : Int) (hcals : dayshiftlaw06_cals.f k l = some lc) (hx : dayshiftlaw06_given.f k n.f0 n.f1 n.f2 n.f3 = some (x.f0, x.f1, x.f2, x.f3)) (hy : dayshiftlaw06_given.f k m.f0 m.f1 m.f2 m.f3 = some (y.f0, y.f1, y.f2, y.f3))
    (ha : cal_In.f k lc x.f0 x.f1 x.f2 x.f3 day = some (a, e)) (hb : cal_In.f k lc y.f0 y.f1 y.f2 y.f3 day = some (b, f))
    (hp : e = 0 → f = 0 → cal_In.f k lc 7 [] [x, y] ⟨#[]⟩ day = some (p, g)) (hq : e = 0 → f = 0 → cal_In.f k lc 8 [] [x, y] ⟨#[]⟩ day = some (q, h)) (hr : e = 0 → f = 0 → cal_In.f k lc 9 [] [x] ⟨#[]⟩ day = some (r, i))
    (hfin : e = 0 → f = 0 → (g = 1 ∨ g = 23 ∨ i = 1 ∨ i = 23) ∨ (g = 0 ∧ h = 0 ∧ i = 0 ∧ p = (a && b) ∧ q = (a || b) ∧ r = !a)) (hk : dayshiftlaw06_known.f k = some true) :
    Calls Tryd.prog 3 #[.slice A0 l.length c0, .agg #[.int .i64 n.f0, .slice A1 n.f1.length c1, .slice A2 n.f2.length c2, .string n.f3], .agg #[.int .i64 m.f0, .slice B1 m.f1.length d1, .slice B2 m.f2.length d2, .string m.f3], .int .i64 day] w fun e w' => e = .returned (.bool true) ∧ Below w.heap.size w w' := by
  go_enter Tryd.func3, Tryd.ntmps3
  go_wp2_with (fail)
  obtain ⟨hb0, kn, kp⟩ := node_base w (.cells #[.int .i64 n.f0, .slice A1 n.f1.length c1, .slice A2 n.f2.length c2, .string n.f3] 26 (0, 0)) (.cells #[.int .i64 m.f0, .slice B1 m.f1.length d1, .slice B2 m.f2.length d2, .string m.f3] 26 (0, 0))
  obtain ⟨W, hW⟩ : ∃ W, W = (w.alloc (.cells #[.int .i64 n.f0, .slice A1 n.f1.length c1, .slice A2 n.f2.length c2, .string n.f3] 26 (0, 0))).alloc (.cells #[.int .i64 m.f0, .slice B1 m.f1.length d1, .slice B2 m.f2.length d2, .string m.f3] 26 (0, 0)) := ⟨_, rfl⟩
  rw [← hW] at hb0 kn kp ⊢
  clear hW
  refine (dayshiftlaw06_cals.calls k A0 c0 l lc W (Kd.C_below hl hb0) hlc hcals).mono ?_
  rintro e1 w1 ⟨v0, rfl, hR0, hb1⟩
  obtain ⟨L0, cL, rfl, hcL, hC0⟩ := Kd.R_reads hR0
  have p0 : w1.cell? ⟨w.heap.size, 0, none⟩ = _ := (hb1.cell (p := ⟨w.heap.size, 0, none⟩) (blk_lt kn)).trans (blk_cell kn 0)
  have p1 : w1.cell? ⟨w.heap.size, 1, none⟩ = _ := (hb1.cell (p := ⟨w.heap.size, 1, none⟩) (blk_lt kn)).trans (blk_cell kn 1)
  have p2 : w1.cell? ⟨w.heap.size, 2, none⟩ = _ := (hb1.cell (p := ⟨w.heap.size, 2, none⟩) (blk_lt kn)).trans (blk_cell kn 2)
  have p3 : w1.cell? ⟨w.heap.size, 3, none⟩ = _ := (hb1.cell (p := ⟨w.heap.size, 3, none⟩) (blk_lt kn)).trans (blk_cell kn 3)
  simp only [List.getElem?_toArray, List.getElem?_cons_zero, List.getElem?_cons_succ] at p0 p1 p2 p3
  have hB1 := below_go hb0 hb0.size hb1
  have hgx := dayshiftlaw06_given.calls k n.f0 A1 c1 n.f1 A2 c2 n.f2 n.f3 _ _ _ _ w1 (Kd.C_below h1 hB1) h1c (Kd.C_below h2 hB1) h2c hx
  have HP := Aside0.mk (blk_below kp hb1)
  have HB1 := Aside0.mk hB1
  have HC0 := Aside0.mk hC0
  have HY := Aside0.mk hy
  have HA := Aside0.mk ha
  have HBb := Aside0.mk hb
  have HPp := Aside0.mk hp
  have HQq := Aside0.mk hq
  have HRr := Aside0.mk hr
  have HFF := Aside0.mk hfin
  have HKN := Aside0.mk hk
  have HI1 := Aside0.mk i1
  have HI2 := Aside0.mk i2
  have HG := Aside0.mk hg
  clear hR0 hb1 kn kp hb0 hl h1 h2 hx hcals hB1 hC0 hy ha hb hp hq hr hfin hk i1 i2 hg
  go_wp2_with (go_at_call 8; refine hgx.mono ?_; rintro e2 w2 ⟨v1, v2, rfl, hr1, hr2, hb2⟩; obtain ⟨X1, xc1, rfl, hx1, hX1⟩ := Kd.R_reads hr1; obtain ⟨X2, xc2, rfl, hx2, hX2⟩ := Kd.R_reads hr2; clear hr1 hr2 p0 p1 p2 p3; have hp2 := blk_below HP.out hb2; have q0 : w2.cell? ⟨w.heap.size + 1, 0, none⟩ = _ := blk_cell hp2 0; have q1 : w2.cell? ⟨w.heap.size + 1, 1, none⟩ = _ := blk_cell hp2 1; have q2 : w2.cell? ⟨w.heap.size + 1, 2, none⟩ = _ := blk_cell hp2 2; have q3 : w2.cell? ⟨w.heap.size + 1, 3, none⟩ = _ := blk_cell hp2 3; simp only [List.getElem?_toArray, List.getElem?_cons_zero, List.getElem?_cons_succ] at q0 q1 q2 q3; have hz2 : w.heap.size + 1 < w2.heap.size := blk_lt hp2; have HB2 := Aside0.mk (below_go HB1.out HB1.out.size hb2); have HC2 := Aside0.mk (Kd.C_below HC0.out hb2); have HX1 := Aside0.mk hX1; have HX2 := Aside0.mk hX2; clear hgx hb2 hp2 hX1 hX2)
  obtain ⟨V, hV⟩ : ∃ V, V = w2.alloc (.cells #[.int .i64 x.f0, .slice X1 x.f1.length xc1, .slice X2 x.f2.length xc2, .string x.f3] 31 (0, 0)) := ⟨_, rfl⟩
  have hbV : Below w2.heap.size w2 V := by rw [hV]; exact below_alloc (Below.refl _ _) _
  have kx : V.heap[w2.heap.size]? = some (.cells #[.int .i64 x.f0, .slice X1 x.f1.length xc1, .slice X2 x.f2.length xc2, .string x.f3] 31 (0, 0)) := by rw [hV]; exact blk_new _ _
  rw [← hV]
  clear hV q0 q1 q2 q3 hz2
  have HBV := Aside0.mk (below_go HB2.out HB2.out.size hbV)
  have HCV := Aside0.mk (Kd.C_below HC2.out hbV)
  have HX1V := Aside0.mk (Kd.C_below HX1.out hbV)
  have HX2V := Aside0.mk (Kd.C_below HX2.out hbV)
  have hgy := dayshiftlaw06_given.calls k m.f0 B1 d1 m.f1 B2 d2 m.f2 m.f3 _ _ _ _ V (Kd.C_below HI1.out HBV.out) i1c (Kd.C_below HI2.out HBV.out) i2c HY.out
  have HKX := Aside0.mk kx
  clear hbV kx HX1 HX2 HC2 HC0 HI1 HI2 HY
  refine hgy.mono ?_
  rintro e3 w3 ⟨v3, v4, rfl, hr3, hr4, hb3⟩
  obtain ⟨Y1, yc1, rfl, hy1, hY1⟩ := Kd.R_reads hr3
  obtain ⟨Y2, yc2, rfl, hy2, hY2⟩ := Kd.R_reads hr4
  have hk3 := blk_below HKX.out hb3
  have p0 : w3.cell? ⟨w2.heap.size, 0, none⟩ = _ := blk_cell hk3 0
  have p1 : w3.cell? ⟨w2.heap.size, 1, none⟩ = _ := blk_cell hk3 1
  have p2 : w3.cell? ⟨w2.heap.size, 2, none⟩ = _ := blk_cell hk3 2
  have p3 : w3.cell? ⟨w2.heap.size, 3, none⟩ = _ := blk_cell hk3 3
  simp only [List.getElem?_toArray, List.getElem?_cons_zero, List.getElem?_cons_succ] at p0 p1 p2 p3
  have hz3 : w2.heap.size < w3.heap.size := blk_lt hk3
  have HB3 := Aside0.mk (below_go HBV.out HBV.out.size hb3)
  have HC3 := Aside0.mk (Kd.C_below HCV.out hb3)
  have HX13 := Aside0.mk (Kd.C_below HX1V.out hb3)
  have HX23 := Aside0.mk (Kd.C_below HX2V.out hb3)
  have HY1 := Aside0.mk hY1
  have HY2 := Aside0.mk hY2
  have HK3 := Aside0.mk hk3
  clear hgy hb3 hr3 hr4 hY1 hY2 hk3 HCV HX1V HX2V HKX
  go_wp2_with (fail)
  obtain ⟨U, hU⟩ : ∃ U, U = w3.alloc (.cells #[.int .i64 y.f0, .slice Y1 y.f1.length yc1, .slice Y2 y.f2.length yc2, .string y.f3] 31 (0, 0)) := ⟨_, rfl⟩
  have hbU : Below w3.heap.size w3 U := by rw [hU]; exact below_alloc (Below.refl _ _) _
  have ky : U.heap[w3.heap.size]? = some (.cells #[.int .i64 y.f0, .slice Y1 y.f1.length yc1, .slice Y2 y.f2.length yc2, .string y.f3] 31 (0, 0)) := by rw [hU]; exact blk_new _ _
  have kx := blk_below HK3.out hbU
  rw [← hU]
  clear hU p0 p1 p2 p3 hz3
  have HBU := Aside0.mk (below_go HB3.out HB3.out.size hbU)
  have gU := Aside0.mk (GOK.below HG.out HBU.out)
  have hC := Kd.C_below HC3.out hbU
  have hX1 := Kd.C_below HX13.out hbU
  have hX2 := Kd.C_below HX23.out hbU
  have hY1 := Kd.C_below HY1.out hbU
  have hY2 := Kd.C_below HY2.out hbU
  have HINU : Aside0 (∀ W' (z0 : Int) (zb : Bool) (ze : Int) Z1 z1 (l1 : List Int) Z2 z2 (l2 : List S31) (z3 : ByteArray), Below U.heap.size U W' → (Kd.int .i64).C W' Z1 l1.length l1 → l1.length ≤ z1 → k31.C W' Z2 l2.length l2 → l2.length ≤ z2 → cal_In.f k lc z0 l1 l2 z3 day = some (zb, ze) → Calls Tryd.prog 9 #[.slice L0 lc.length cL, .agg #[.int .i64 z0, .slice Z1 l1.length z1, .slice Z2 l2.length z2, .string z3], .int .i64 day] W' fun e w' => e = .returned (.tuple #[.bool zb, .int .i64 ze]) ∧ Below W'.heap.size W' w') := ⟨fun W' z0 zb ze Z1 z1 l1 Z2 z2 l2 z3 hW a1 a2 a3 a4 a5 => cal_In.calls k L0 cL lc z0 Z1 z1 l1 Z2 z2 l2 z3 day zb ze W' (Kd.C_below hC hW) hcL a1 a2 a3 a4 (GOK.below gU.out hW) a5⟩
  have HS : Aside0 (∀ W' : World, Below U.heap.size U W' → W'.cell? ⟨w2.heap.size, 0, none⟩ = some (.int .i64 x.f0) ∧ W'.cell? ⟨w2.heap.size, 1, none⟩ = some (.slice X1 x.f1.length xc1) ∧ W'.cell? ⟨w2.heap.size, 2, none⟩ = some (.slice X2 x.f2.length xc2) ∧ W'.cell? ⟨w2.heap.size, 3, none⟩ = some (.string x.f3) ∧ W'.cell? ⟨w3.heap.size, 0, none⟩ = some (.int .i64 y.f0) ∧ W'.cell? ⟨w3.heap.size, 1, none⟩ = some (.slice Y1 y.f1.length yc1) ∧ W'.cell? ⟨w3.heap.size, 2, none⟩ = some (.slice Y2 y.f2.length yc2) ∧ W'.cell? ⟨w3.heap.size, 3, none⟩ = some (.string y.f3)) := by
    constructor
    intro W' hW'
    have b_ : ∀ {q : Nat} {o : Obj} (hq : U.heap[q]? = some o) (j : Nat), W'.cell? ⟨q, j, none⟩ = U.cell? ⟨q, j, none⟩ := fun {q o} hq j => hW'.cell (p := ⟨q, j, none⟩) (blk_lt hq)
    exact ⟨(b_ kx 0).trans (blk_cell kx 0), (b_ kx 1).trans (blk_cell kx 1), (b_ kx 2).trans (blk_cell kx 2), (b_ kx 3).trans (blk_cell kx 3), (b_ ky 0).trans (blk_cell ky 0), (b_ ky 1).trans (blk_cell ky 1), (b_ ky 2).trans (blk_cell ky 2), (b_ ky 3).trans (blk_cell ky 3)⟩
  have hinx := HINU.out U x.f0 a e X1 xc1 x.f1 X2 xc2 x.f2 x.f3 (Below.refl _ _) hX1 hx1 hX2 hx2 HA.out
  have hiny := fun (W' : World) (hW : Below U.heap.size U W') => HINU.out W' y.f0 b f Y1 yc1 y.f1 Y2 yc2 y.f2 y.f3 hW (Kd.C_below hY1 hW) hy1 (Kd.C_below hY2 hW) hy2 HBb.out
  have hU0 := Below.refl U.heap.size U
  have hknown := fun (W' : World) (hW : Below U.heap.size U W') => dayshiftlaw06_known.calls k true W' (GOK.below gU.out hW) HKN.out
  have HX1 := Aside0.mk hX1
  have HX2 := Aside0.mk hX2
  have HY1 := Aside0.mk hY1
  have HY2 := Aside0.mk hY2
  clear hbU ky kx hC hX1 hX2 hY1 hY2 HC3 HX13 HX23 HK3 HA HBb
  obtain ⟨r0, r1, r2, r3, s0, s1, s2, s3⟩ := HS.out U hU0
  by_cases z : e = 0
  rotate_left
  · have zb : (e != 0) = true := bne_iff_ne.mpr z
    clear HPp HQq HRr HFF z
    go_wp2_with (first | (go_at_call 10; refine (hknown _ hb5).mono ?_; rintro e6 w6 ⟨rfl, hb6⟩) | (go_at_call 9; first | ((with_reducible refine hinx.mono ?_); rintro e4 w4 ⟨rfl, hb4⟩; clear r0 r1 r2 r3 s0 s1 s2 s3 hinx; obtain ⟨r0, r1, r2, r3, s0, s1, s2, s3⟩ := HS.out w4 hb4) | ((with_reducible refine (hiny _ hb4).mono ?_); rintro e5 w5 ⟨rfl, hb5'⟩; have hb5 := below_go hb4 hb4.size hb5'; clear hb5' r0 r1 r2 r3 s0 s1 s2 s3)))
    go_ret
    exact ⟨rfl, HBU.out.trans ((below_go hb5 hb5.size hb6).mono HBU.out.size)⟩
  have zb : (e != 0) = false := bne_eq_false_iff_eq.mpr z
  by_cases z2 : f = 0
  rotate_left
  · have zb2 : (f != 0) = true := bne_iff_ne.mpr z2
    clear HPp HQq HRr HFF z z2
    go_wp2_with (first | (go_at_call 10; refine (hknown _ hb5).mono ?_; rintro e6 w6 ⟨rfl, hb6⟩) | (go_at_call 9; first | ((with_reducible refine hinx.mono ?_); rintro e4 w4 ⟨rfl, hb4⟩; clear r0 r1 r2 r3 s0 s1 s2 s3 hinx; obtain ⟨r0, r1, r2, r3, s0, s1, s2, s3⟩ := HS.out w4 hb4) | ((with_reducible refine (hiny _ hb4).mono ?_); rintro e5 w5 ⟨rfl, hb5'⟩; have hb5 := below_go hb4 hb4.size hb5'; clear hb5' r0 r1 r2 r3 s0 s1 s2 s3)))
    go_ret
    exact ⟨rfl, HBU.out.trans ((below_go hb5 hb5.size hb6).mono HBU.out.size)⟩
  have zb2 : (f != 0) = false := bne_eq_false_iff_eq.mpr z2
  have hp := HPp.out z z2
  have hq := HQq.out z z2
  have hr := HRr.out z z2
  have hf := HFF.out z z2
  have HPP := Aside0.mk hp
  have HQQ := Aside0.mk hq
  have HRR := Aside0.mk hr
  have HF := Aside0.mk hf
  subst z z2
  clear HPp HQq HRr HFF hp hq hr hf
  go_upto_region 9 with (first | (go_at_call 9; first | ((with_reducible refine hinx.mono ?_); rintro e4 w4 ⟨rfl, hb4⟩; clear r0 r1 r2 r3 s0 s1 s2 s3 hinx; obtain ⟨r0, r1, r2, r3, s0, s1, s2, s3⟩ := HS.out w4 hb4) | ((with_reducible refine (hiny _ hb4).mono ?_); rintro e5 w5 ⟨rfl, hb5'⟩; have hb5 := below_go hb4 hb4.size hb5'; clear hb5' r0 r1 r2 r3 s0 s1 s2 s3; obtain ⟨r0, r1, r2, r3, s0, s1, s2, s3⟩ := HS.out w5 hb5)))
  obtain ⟨V2, hV2⟩ : ∃ V2, V2 = w5.alloc (.cells #[.int .i64 x.f0, .slice X1 x.f1.length xc1, .slice X2 x.f2.length xc2, .string x.f3, .int .i64 y.f0, .slice Y1 y.f1.length yc1, .slice Y2 y.f2.length yc2, .string y.f3] 31 (0, 0)) := ⟨_, rfl⟩
  have hbV2 : Below U.heap.size U V2 := by rw [hV2]; exact hb5.alloc hb5.size _
  have kv2 : V2.heap[w5.heap.size]? = some (.cells #[.int .i64 x.f0, .slice X1 x.f1.length xc1, .slice X2 x.f2.length xc2, .string x.f3, .int .i64 y.f0, .slice Y1 y.f1.length yc1, .slice Y2 y.f2.length yc2, .string y.f3] 31 (0, 0)) := by rw [hV2]; exact blk_new _ _
  have hC2 := two_nodes x y kv2 (Kd.C_below HX1.out hbV2) hx1 (Kd.C_below HX2.out hbV2) hx2 (Kd.C_below HY1.out hbV2) hy1 (Kd.C_below HY2.out hbV2) hy2
  have hC1 : k31.C V2 (some ⟨w5.heap.size, 0, none⟩) [x].length [x] := C_take_ (m := 1) hC2 (by simp)
  rw [← hV2]
  clear hV2 r0 r1 r2 r3 s0 s1 s2 s3
  have hand : ∀ W', Below V2.heap.size V2 W' → Calls Tryd.prog 9 #[.slice L0 lc.length cL, .agg #[.int .i64 7, .slice none 0 0, .slice (some ⟨w5.heap.size, 0, none⟩) 2 2, .string ⟨#[]⟩], .int .i64 day] W' fun e w' => e = .returned (.tuple #[.bool p, .int .i64 g]) ∧ Below W'.heap.size W' w' := fun W' hW => HINU.out W' 7 p g none 0 [] (some ⟨w5.heap.size, 0, none⟩) 2 [x, y] ⟨#[]⟩ (below_go hbV2 hbV2.size hW) (Kd.C_nil _ _) (by decide) (Kd.C_below hC2 hW) (by simp) HPP.out
  have hor : ∀ W', Below V2.heap.size V2 W' → Calls Tryd.prog 9 #[.slice L0 lc.length cL, .agg #[.int .i64 8, .slice none 0 0, .slice (some ⟨w5.heap.size, 0, none⟩) 2 2, .string ⟨#[]⟩], .int .i64 day] W' fun e w' => e = .returned (.tuple #[.bool q, .int .i64 h]) ∧ Below W'.heap.size W' w' := fun W' hW => HINU.out W' 8 q h none 0 [] (some ⟨w5.heap.size, 0, none⟩) 2 [x, y] ⟨#[]⟩ (below_go hbV2 hbV2.size hW) (Kd.C_nil _ _) (by decide) (Kd.C_below hC2 hW) (by simp) HQQ.out
  have hnot : ∀ W', Below V2.heap.size V2 W' → Calls Tryd.prog 9 #[.slice L0 lc.length cL, .agg #[.int .i64 9, .slice none 0 0, .slice (some ⟨w5.heap.size, 0, none⟩) 1 2, .string ⟨#[]⟩], .int .i64 day] W' fun e w' => e = .returned (.tuple #[.bool r, .int .i64 i]) ∧ Below W'.heap.size W' w' := fun W' hW => HINU.out W' 9 r i none 0 [] (some ⟨w5.heap.size, 0, none⟩) 2 [x] ⟨#[]⟩ (below_go hbV2 hbV2.size hW) (Kd.C_nil _ _) (by decide) (Kd.C_below hC1 hW) (by simp) HRR.out
  have hv0 := Below.refl V2.heap.size V2
  have HBV2 := Aside0.mk hbV2
  clear hbV2 kv2 hC2 hC1 hiny hb4 hb5 HX1 HX2 HY1 HY2 HINU HS HPP HQQ HRR
  have hf := HF.out
  clear HF
  by_cases y1 : g = 1 ∨ g = 23 ∨ i = 1 ∨ i = 23
  · clear hf
    by_cases t1 : g = 1
    · have t1b : (g == 1) = true := beq_iff_eq.mpr t1
      clear t1 y1
      go_wp2_with (first | (go_at_call 10; refine (hknown _ (HBV2.out.trans (hb8.mono HBV2.out.size))).mono ?_; rintro e9 w9 ⟨rfl, hb9⟩) | (go_at_call 9; first | ((with_reducible refine (hand _ hv0).mono ?_); rintro e6 w6 ⟨rfl, hb6⟩) | ((with_reducible refine (hor _ hb6).mono ?_); rintro e7 w7 ⟨rfl, hb7'⟩; have hb7 := below_go hb6 hb6.size hb7'; clear hb7') | ((with_reducible refine (hnot _ hb7).mono ?_); rintro e8 w8 ⟨rfl, hb8'⟩; have hb8 := below_go hb7 hb7.size hb8'; clear hb8')))
      go_ret
      exact ⟨rfl, HBU.out.trans ((HBV2.out.trans ((below_go hb8 hb8.size hb9).mono HBV2.out.size)).mono HBU.out.size)⟩
    have t1b : (g == 1) = false := beq_eq_false_iff_ne.mpr t1
    by_cases t2 : g = 23
    · have t2b : (g == 23) = true := beq_iff_eq.mpr t2
      clear t1 t2 y1
      go_wp2_with (first | (go_at_call 10; refine (hknown _ (HBV2.out.trans (hb8.mono HBV2.out.size))).mono ?_; rintro e9 w9 ⟨rfl, hb9⟩) | (go_at_call 9; first | ((with_reducible refine (hand _ hv0).mono ?_); rintro e6 w6 ⟨rfl, hb6⟩) | ((with_reducible refine (hor _ hb6).mono ?_); rintro e7 w7 ⟨rfl, hb7'⟩; have hb7 := below_go hb6 hb6.size hb7'; clear hb7') | ((with_reducible refine (hnot _ hb7).mono ?_); rintro e8 w8 ⟨rfl, hb8'⟩; have hb8 := below_go hb7 hb7.size hb8'; clear hb8')))
      go_ret
      exact ⟨rfl, HBU.out.trans ((HBV2.out.trans ((below_go hb8 hb8.size hb9).mono HBV2.out.size)).mono HBU.out.size)⟩
    have t2b : (g == 23) = false := beq_eq_false_iff_ne.mpr t2
    by_cases t3 : i = 1
    · have t3b : (i == 1) = true := beq_iff_eq.mpr t3
      clear t1 t2 t3 y1
      go_wp2_with (first | (go_at_call 10; refine (hknown _ (HBV2.out.trans (hb8.mono HBV2.out.size))).mono ?_; rintro e9 w9 ⟨rfl, hb9⟩) | (go_at_call 9; first | ((with_reducible refine (hand _ hv0).mono ?_); rintro e6 w6 ⟨rfl, hb6⟩) | ((with_reducible refine (hor _ hb6).mono ?_); rintro e7 w7 ⟨rfl, hb7'⟩; have hb7 := below_go hb6 hb6.size hb7'; clear hb7') | ((with_reducible refine (hnot _ hb7).mono ?_); rintro e8 w8 ⟨rfl, hb8'⟩; have hb8 := below_go hb7 hb7.size hb8'; clear hb8')))
      go_ret
      exact ⟨rfl, HBU.out.trans ((HBV2.out.trans ((below_go hb8 hb8.size hb9).mono HBV2.out.size)).mono HBU.out.size)⟩
    have t3b : (i == 1) = false := beq_eq_false_iff_ne.mpr t3
    have t4 : i = 23 := by omega
    have t4b : (i == 23) = true := beq_iff_eq.mpr t4
    clear t1 t2 t3 t4 y1
    go_wp2_with (first | (go_at_call 10; refine (hknown _ (HBV2.out.trans (hb8.mono HBV2.out.size))).mono ?_; rintro e9 w9 ⟨rfl, hb9⟩) | (go_at_call 9; first | ((with_reducible refine (hand _ hv0).mono ?_); rintro e6 w6 ⟨rfl, hb6⟩) | ((with_reducible refine (hor _ hb6).mono ?_); rintro e7 w7 ⟨rfl, hb7'⟩; have hb7 := below_go hb6 hb6.size hb7'; clear hb7') | ((with_reducible refine (hnot _ hb7).mono ?_); rintro e8 w8 ⟨rfl, hb8'⟩; have hb8 := below_go hb7 hb7.size hb8'; clear hb8')))
    go_ret
    exact ⟨rfl, HBU.out.trans ((HBV2.out.trans ((below_go hb8 hb8.size hb9).mono HBV2.out.size)).mono HBU.out.size)⟩
  · have hf2 := hf.resolve_left y1
    obtain ⟨rfl, rfl, rfl, rfl, rfl, rfl⟩ := hf2
    clear hf y1
    cases a <;> cases b
    all_goals
      go_wp2_with (first | (go_at_call 10; refine (hknown _ (HBV2.out.trans (hb8.mono HBV2.out.size))).mono ?_; rintro e9 w9 ⟨rfl, hb9⟩) | (go_at_call 9; first | ((with_reducible refine (hand _ hv0).mono ?_); rintro e6 w6 ⟨rfl, hb6⟩) | ((with_reducible refine (hor _ hb6).mono ?_); rintro e7 w7 ⟨rfl, hb7'⟩; have hb7 := below_go hb6 hb6.size hb7'; clear hb7') | ((with_reducible refine (hnot _ hb7).mono ?_); rintro e8 w8 ⟨rfl, hb8'⟩; have hb8 := below_go hb7 hb7.size hb8'; clear hb8')))
      go_ret
      exact ⟨rfl, HBU.out.trans ((HBV2.out.trans ((below_go hb8 hb8.size hb9).mono HBV2.out.size)).mono HBU.out.size)⟩
end Go.Proofs.YtpcjbnaggeiaoaaDoor.PCalMoved
