/- The law CondClean, walked: for every list of conditions and every day it comes to true. Each theorem names its own conditions. -/
import Derived.Test.YthneeibphelofaaQCondPlaysCondAdds
namespace Go.Proofs.Ythneeibphelofaa.QCondPlays
open Go.RowKit Go.Proofs.Ythneeibphelofaa.PCondPlays Go.Proofs.YthneeibphelofaaW.PrintWords Go.Proofs.YthneeibphelofaaW.PrintLast Go.Proofs.YthneeibphelofaaW.PrintMore
set_option linter.unusedVariables false
set_option linter.unusedSimpArgs false
set_option maxHeartbeats 8000000 in
set_option maxRecDepth 100000 in
theorem clean_walk (A0 : Option Addr) (c0 : Nat) (l : List C) (day : Int) (w : World) (hl : Kd.C k29 w A0 l.length l) (hlc : l.length ≤ c0) (hwf : ∀ c ∈ l, wfC c) (hll : l.length ≤ 1000000000000000) :
    Calls Try.prog 4 #[.slice A0 l.length c0, .int .i64 day] w fun e w' => e = .returned (.bool true) ∧ Below w.heap.size w w' := by
  have hn := fun (W : World) => New.calls W
  have hk := fun (W : World) => known.calls W
  have HL := Aside0.mk hl
  clear hl
  go_enter Try.func4, Try.ntmps4
  go_upto_region 2 with (go_at_call 8; refine (hn _).mono ?_; rintro e w1 ⟨s, b, rfl, hs, hb, hh, hB⟩)
  have HB0 := Aside0.mk hB
  have HH0 := Aside0.mk hh
  clear hB hh hn
  go_wp2
  go_loopg [6] l.length (fun gg v6 wr => ∃ i : Nat, i ≤ l.length ∧ l.length - i ≤ gg ∧ v6 = .int .i64 i ∧ Aside0 (Held wr s b (addsL (l.take i) [])) ∧ Aside0 (Below w.heap.size w wr))
  case atStart => exact ⟨0, Nat.zero_le _, by omega, rfl, HH0, HB0⟩
  case round =>
    obtain ⟨i, hi, hg, rfl, H1, HB⟩ := hrel
    clear HH0 HB0
    have tame := (Tame.nil).adds (l.take i)
    by_cases go : i < l.length ∧ i < 200
    · obtain ⟨hlt, h200⟩ := go
      have b2 : decide ((i : Int) < (l.length : Int)) = true := decide_eq_true (by omega)
      have b3 : decide ((i : Int) < 200) = true := decide_eq_true (by omega)
      obtain ⟨ad, e, x0, x1⟩ := at_T29 HL.out (i : Int) (by omega) (by omega)
      cases e
      have hb1 := World.block_lt_of_cell? w _ x0
      rw [rd_at l i hlt, Int.toNat_natCast] at x0 x1
      rw [Int.toNat_natCast] at hb1
      replace x0 := (HB.out.cell hb1).trans x0
      replace x1 := (HB.out.cell (p := ⟨(ad.add (i * 2)).block, (ad.add (i * 2)).off + 1, none⟩) hb1).trans x1
      have hA := Add.calls s b _ l[i] (hwf _ (List.getElem_mem _)) wr H1.out (by have := tame.len; omega)
      rw [← addsL_take l i hlt []] at hA
      clear tame H1
      generalize l[i] = xi at *
      go_wp2_with (go_at_call 10; refine hA.mono ?_; rintro e3 w3 ⟨rfl, h3, g3⟩; have B3 := HB.out.trans (grown_below g3 hb HB.out.size))
      go_roundg (l.length - (i + 1))
      case measure => omega
      case rel => exact ⟨i + 1, by omega, Nat.le_refl _, by go_num, ⟨h3⟩, ⟨B3⟩⟩
    · have HX : Aside0 (¬ ((i : Int) < (l.length : Int) ∧ (i : Int) < 200)) := ⟨by omega⟩
      have h1 := H1.out
      generalize addsL (l.take i) [] = L at h1 tame
      have hlen : L.length ≤ 1000 := by have := tame.len; omega
      have hL := List.calls s b L wr h1 hlen
      have HH := Aside0.mk h1
      have hC := fun (W : World) (h : Held W s b L) => Clean.calls s b L day W h hlen
      have hsplit := filter_split (fun c : C => decide (c.f1 < day)) L
      have HM := Aside0.mk (fun (c : C) (hc : c ∈ L) => (show decide (c ∈ L.filter fun c => !decide (c.f1 < day)) = decide (day ≤ c.f1) from by rw [decide_eq_decide, List.mem_filter]; simp [hc]))
      generalize hn1 : (L.filter fun c => decide (c.f1 < day)).length = n1 at *
      generalize hM1 : (L.filter fun c => !decide (c.f1 < day)) = M at *
      clear H1 h1 hn1 hM1 tame
      by_cases z : (i : Int) < (l.length : Int)
      · have b2 : decide ((i : Int) < (l.length : Int)) = true := decide_eq_true z
        have b3 : decide ((i : Int) < 200) = false := decide_eq_false (fun y => HX.out ⟨z, y⟩)
        go_upto_region 10 with (first | (go_at_call 12; refine hL.mono ?_; rintro e3 w3 ⟨v, rfl, R1, B1⟩; have hh3 := HH.out.below B1; clear hL) | (go_at_call 13; refine (hC _ hh3).mono ?_; rintro e4 w4 ⟨rfl, hh4, g4⟩))
        have R4 : k29.R 29 w4 wr.heap.size (fun k => wr.heap.size ≤ k) v L := Kd.R_grown (Kd.R_mono (Kd.R_bound R1) (fun k hk => hk.2.1)) g4 (fun k hk => by have := HH.out.ltb; simp; omega)
        obtain ⟨A1, k1, rfl, hk1, hC1⟩ := Kd.R_reads R4
        have hB3 := below_go HB.out HB.out.size B1
        have hB4 : Below w.heap.size w w4 := hB3.trans (grown_below g4 hb hB3.size)
        have HC1 := Aside0.mk hC1
        have H4 := Aside0.mk hh4
        have HB4 := Aside0.mk hB4
        have hwL := HH.out.wf
        clear R1 R4 hC1 hh4 hB4 hB3 hh3 g4 B1 hC HL
        go_wp2
        go_loopg [9] L.length (fun gg v9 wr => ∃ j : Nat, j ≤ L.length ∧ L.length - j ≤ gg ∧ v9 = .int .i64 j ∧ Aside0 (Below w4.heap.size w4 wr))
        case atStart => exact ⟨0, Nat.zero_le _, by omega, rfl, ⟨Below.refl _ _⟩⟩
        case round =>
          obtain ⟨j, hj, hg2, rfl, HQ⟩ := hrel
          by_cases hjl : j < L.length
          · have c2 : decide ((j : Int) < (L.length : Int)) = true := decide_eq_true (by omega)
            have c3 : (0 : Int) ≤ (j : Int) := by omega
            have c4 : (j : Int) < (L.length : Int) := by omega
            obtain ⟨ad, e, x0, x1⟩ := at_T29 HC1.out (j : Int) c3 c4
            cases e
            have hb1 := World.block_lt_of_cell? w4 _ x0
            rw [rd_at L j hjl, Int.toNat_natCast] at x0 x1
            rw [Int.toNat_natCast] at hb1
            have hm := HM.out L[j] (List.getElem_mem _)
            have hH := fun (W : World) (hW : Below w4.heap.size w4 W) => Has.calls s b M L[j] (hwL _ (List.getElem_mem _)) W (H4.out.below hW)
            rw [hm] at hH
            generalize L[j] = xj at *
            have HS : Aside0 (∀ W : World, Below w4.heap.size w4 W → W.cell? (ad.add (j * 2)) = some (.string xj.f0) ∧ W.cell? ⟨(ad.add (j * 2)).block, (ad.add (j * 2)).off + 1, none⟩ = some (.int .i64 xj.f1)) := ⟨fun W hW => ⟨(hW.cell hb1).trans x0, (hW.cell (p := ⟨(ad.add (j * 2)).block, (ad.add (j * 2)).off + 1, none⟩) hb1).trans x1⟩⟩
            obtain ⟨y0, y1⟩ := HS.out wr HQ.out
            have hq := HQ.out
            clear x0 x1 hm
            cases hd : decide (day ≤ xj.f1)
            all_goals
              rw [hd] at hH
              go_upto_region 13 with (fail)
              go_region_held3 (fun W => W.cell? (ad.add (j * 2)) = some (.string xj.f0) ∧ W.cell? ⟨(ad.add (j * 2)).block, (ad.add (j * 2)).off + 1, none⟩ = some (.int .i64 xj.f1)) (first | exact HS.out _ hq | exact HS.out _ (below_drew1 hq) | exact HS.out _ hq5 | exact HS.out _ (below_drew1 hq5)) (first | (go_at_call 14; refine (hH _ (by first | exact hq | exact below_drew1 hq)).mono ?_; rintro e5 w5 ⟨rfl, hb5⟩; have hq5 : Below w4.heap.size w4 w5 := (by first | exact below_go hq hq.size hb5 | exact below_go (below_drew1 hq) (below_drew1 hq).size hb5); clear hb5))
              go_wp2
              go_roundg (L.length - (j + 1))
              case measure => omega
              case rel => exact ⟨j + 1, by omega, Nat.le_refl _, by go_num, ⟨by first | exact hq5 | exact below_drew1 hq5⟩⟩
          · have c2 : decide ((j : Int) < (L.length : Int)) = false := decide_eq_false (by omega)
            have hln := fun (W : World) (hW : Below w4.heap.size w4 W) => Len.calls s b M W (H4.out.below hW)
            have e1 : ((M.length : Int) == (L.length : Int) - (n1 : Int)) = true := beq_iff_eq.mpr (by omega)
            have e2 : (M.length : Int) = (L.length : Int) - (n1 : Int) := by omega
            have hq := HQ.out
            go_wp2_with (first | (go_at_call 15; refine (hln _ hq).mono ?_; rintro e5 w5 ⟨rfl, hd5⟩; have hq5 := below_go hq hq.size hd5.below; clear hd5) | (go_at_call 9; refine (hk _).mono ?_; rintro e6 w6 ⟨rfl, B6⟩))
            go_ret
            exact ⟨rfl, HB4.out.trans ((below_go hq5 hq5.size B6).mono HB4.out.size)⟩
      · have b2 : decide ((i : Int) < (l.length : Int)) = false := decide_eq_false z
        go_upto_region 10 with (first | (go_at_call 12; refine hL.mono ?_; rintro e3 w3 ⟨v, rfl, R1, B1⟩; have hh3 := HH.out.below B1; clear hL) | (go_at_call 13; refine (hC _ hh3).mono ?_; rintro e4 w4 ⟨rfl, hh4, g4⟩))
        have R4 : k29.R 29 w4 wr.heap.size (fun k => wr.heap.size ≤ k) v L := Kd.R_grown (Kd.R_mono (Kd.R_bound R1) (fun k hk => hk.2.1)) g4 (fun k hk => by have := HH.out.ltb; simp; omega)
        obtain ⟨A1, k1, rfl, hk1, hC1⟩ := Kd.R_reads R4
        have hB3 := below_go HB.out HB.out.size B1
        have hB4 : Below w.heap.size w w4 := hB3.trans (grown_below g4 hb hB3.size)
        have HC1 := Aside0.mk hC1
        have H4 := Aside0.mk hh4
        have HB4 := Aside0.mk hB4
        have hwL := HH.out.wf
        clear R1 R4 hC1 hh4 hB4 hB3 hh3 g4 B1 hC HL
        go_wp2
        go_loopg [9] L.length (fun gg v9 wr => ∃ j : Nat, j ≤ L.length ∧ L.length - j ≤ gg ∧ v9 = .int .i64 j ∧ Aside0 (Below w4.heap.size w4 wr))
        case atStart => exact ⟨0, Nat.zero_le _, by omega, rfl, ⟨Below.refl _ _⟩⟩
        case round =>
          obtain ⟨j, hj, hg2, rfl, HQ⟩ := hrel
          by_cases hjl : j < L.length
          · have c2 : decide ((j : Int) < (L.length : Int)) = true := decide_eq_true (by omega)
            have c3 : (0 : Int) ≤ (j : Int) := by omega
            have c4 : (j : Int) < (L.length : Int) := by omega
            obtain ⟨ad, e, x0, x1⟩ := at_T29 HC1.out (j : Int) c3 c4
            cases e
            have hb1 := World.block_lt_of_cell? w4 _ x0
            rw [rd_at L j hjl, Int.toNat_natCast] at x0 x1
            rw [Int.toNat_natCast] at hb1
            have hm := HM.out L[j] (List.getElem_mem _)
            have hH := fun (W : World) (hW : Below w4.heap.size w4 W) => Has.calls s b M L[j] (hwL _ (List.getElem_mem _)) W (H4.out.below hW)
            rw [hm] at hH
            generalize L[j] = xj at *
            have HS : Aside0 (∀ W : World, Below w4.heap.size w4 W → W.cell? (ad.add (j * 2)) = some (.string xj.f0) ∧ W.cell? ⟨(ad.add (j * 2)).block, (ad.add (j * 2)).off + 1, none⟩ = some (.int .i64 xj.f1)) := ⟨fun W hW => ⟨(hW.cell hb1).trans x0, (hW.cell (p := ⟨(ad.add (j * 2)).block, (ad.add (j * 2)).off + 1, none⟩) hb1).trans x1⟩⟩
            obtain ⟨y0, y1⟩ := HS.out wr HQ.out
            have hq := HQ.out
            clear x0 x1 hm
            cases hd : decide (day ≤ xj.f1)
            all_goals
              rw [hd] at hH
              go_upto_region 13 with (fail)
              go_region_held3 (fun W => W.cell? (ad.add (j * 2)) = some (.string xj.f0) ∧ W.cell? ⟨(ad.add (j * 2)).block, (ad.add (j * 2)).off + 1, none⟩ = some (.int .i64 xj.f1)) (first | exact HS.out _ hq | exact HS.out _ (below_drew1 hq) | exact HS.out _ hq5 | exact HS.out _ (below_drew1 hq5)) (first | (go_at_call 14; refine (hH _ (by first | exact hq | exact below_drew1 hq)).mono ?_; rintro e5 w5 ⟨rfl, hb5⟩; have hq5 : Below w4.heap.size w4 w5 := (by first | exact below_go hq hq.size hb5 | exact below_go (below_drew1 hq) (below_drew1 hq).size hb5); clear hb5))
              go_wp2
              go_roundg (L.length - (j + 1))
              case measure => omega
              case rel => exact ⟨j + 1, by omega, Nat.le_refl _, by go_num, ⟨by first | exact hq5 | exact below_drew1 hq5⟩⟩
          · have c2 : decide ((j : Int) < (L.length : Int)) = false := decide_eq_false (by omega)
            have hln := fun (W : World) (hW : Below w4.heap.size w4 W) => Len.calls s b M W (H4.out.below hW)
            have e1 : ((M.length : Int) == (L.length : Int) - (n1 : Int)) = true := beq_iff_eq.mpr (by omega)
            have e2 : (M.length : Int) = (L.length : Int) - (n1 : Int) := by omega
            have hq := HQ.out
            go_wp2_with (first | (go_at_call 15; refine (hln _ hq).mono ?_; rintro e5 w5 ⟨rfl, hd5⟩; have hq5 := below_go hq hq.size hd5.below; clear hd5) | (go_at_call 9; refine (hk _).mono ?_; rintro e6 w6 ⟨rfl, B6⟩))
            go_ret
            exact ⟨rfl, HB4.out.trans ((below_go hq5 hq5.size B6).mono HB4.out.size)⟩
end Go.Proofs.Ythneeibphelofaa.QCondPlays
