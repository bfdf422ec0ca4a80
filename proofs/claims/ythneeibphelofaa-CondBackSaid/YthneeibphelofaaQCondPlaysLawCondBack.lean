/- The law CondBack, walked: for every list of conditions and every condition it comes to true. Each theorem names its own conditions. -/
import Derived.Test.YthneeibphelofaaQCondPlaysCondAdds
namespace Go.Proofs.Ythneeibphelofaa.QCondPlays
open Go.RowKit Go.Proofs.Ythneeibphelofaa.PCondPlays Go.Proofs.YthneeibphelofaaW.PrintWords Go.Proofs.YthneeibphelofaaW.PrintLast Go.Proofs.YthneeibphelofaaW.PrintMore
set_option linter.unusedVariables false
set_option linter.unusedSimpArgs false
theorem filter_none {L : List C} {c : C} (h : c ∉ L) : (L.filter fun d => !decide (d = c)) = L := by
  rw [List.filter_eq_self]
  intro d hd
  have : d ≠ c := fun e => h (e ▸ hd)
  simp [this]
theorem ins_filter {L : List C} {c : C} (hs : Sorted L) (h : c ∉ L) : ((ins c L).filter fun d => !decide (d = c)) = L := by
  refine Sorted.ext ((ins_sorted c hs h).filter _) hs (fun d => ?_)
  rw [List.mem_filter, ins_mem]
  constructor
  · rintro ⟨e | e, k⟩
    · simp [e] at k
    · exact e
  · intro e
    have : d ≠ c := fun z => h (z ▸ e)
    exact ⟨.inr e, by simp [this]⟩
/-- The three ways: it was there; it is added; it can not be added. -/
structure Way (L L2 L3 : List C) (c : C) (there : Bool) (e : Int) (is : Bool) : Prop where
  add : addE L c = e ∧ addR L c = L2
  drop : (L2.filter fun d => !decide (d = c)) = L3
  th : decide (c ∈ L) = there
  is_ : decide (c ∈ L2) = is
  has3 : decide (c ∈ L3) = false
  len2 : L2.length ≤ 1000
  len3 : L3.length ≤ 1000
theorem ways (L : List C) (c : C) (ht : Tame L) (hs : Sorted L) : (∃ L3, Way L L L3 c true 0 true ∧ L3.length + 1 = L.length) ∨ (∃ L2, Way L L2 L c false 0 true) ∨ (∃ e, Way L L L c false e false ∧ (e == 0) = false) := by
  have hl := ht.len
  by_cases hm : c ∈ L
  · left
    have hg := ht.good c hm
    have he : addE L c = 0 := by unfold addE; rw [if_neg hg, if_neg (fun z => z.1 hm)]
    have hf := filter_ne_length c hs.nodup
    rw [if_pos hm] at hf
    exact ⟨_, ⟨⟨he, by unfold addR addL; rw [if_pos he, if_pos hm]⟩, rfl, decide_eq_true hm, decide_eq_true hm, by rw [decide_eq_false_iff_not, List.mem_filter]; simp, by omega, by omega⟩, hf⟩
  · right
    by_cases he : addE L c = 0
    · left
      exact ⟨ins c L, ⟨he, by unfold addR addL; rw [if_pos he, if_neg hm]⟩, ins_filter hs hm, decide_eq_false hm, decide_eq_true ((ins_mem c c L).mpr (.inl rfl)), decide_eq_false hm, by rw [ins_length]; omega, by omega⟩
    · right
      exact ⟨addE L c, ⟨⟨rfl, by unfold addR; rw [if_neg he]⟩, filter_none hm, decide_eq_false hm, decide_eq_false hm, decide_eq_false hm, by omega, by omega⟩, beq_eq_false_iff_ne.mpr he⟩
set_option maxHeartbeats 8000000 in
set_option maxRecDepth 100000 in
theorem back_walk (A0 : Option Addr) (c0 : Nat) (l : List C) (c : C) (w : World) (hl : Kd.C k29 w A0 l.length l) (hlc : l.length ≤ c0) (hwf : ∀ c ∈ l, wfC c) (hll : l.length ≤ 1000000000000000) (hc : wfC c) :
    Calls Try.prog 5 #[.slice A0 l.length c0, .agg #[.string c.f0, .int .i64 c.f1]] w fun e w' => e = .returned (.bool true) ∧ Below w.heap.size w w' := by
  have hn := fun (W : World) => New.calls W
  have hk := fun (W : World) => known.calls W
  have HL := Aside0.mk hl
  clear hl
  go_enter Try.func5, Try.ntmps5
  go_upto_region 1 with (fail)
  obtain ⟨W, hW⟩ : ∃ W, W = w.alloc (.cells #[.string c.f0, .int .i64 c.f1] 29 (0, 0)) := ⟨_, rfl⟩
  have HW := Aside0.mk (show Below w.heap.size w W by rw [hW]; exact below_alloc (Below.refl _ _) _)
  have kb : W.heap[w.heap.size]? = some (.cells #[.string c.f0, .int .i64 c.f1] 29 (0, 0)) := by rw [hW]; exact blk_new _ _
  rw [← hW]
  clear hW
  have HS : Aside0 (∀ W' : World, Below W.heap.size W W' → W'.cell? ⟨w.heap.size, 0, none⟩ = some (.string c.f0) ∧ W'.cell? ⟨w.heap.size, 1, none⟩ = some (.int .i64 c.f1)) := ⟨fun W' h => ⟨blk_cell (blk_below kb h) 0, blk_cell (blk_below kb h) 1⟩⟩
  clear kb
  go_upto_region 2 with (go_at_call 8; refine (hn _).mono ?_; rintro e w1 ⟨s, b, rfl, hs, hb, hh, hB⟩)
  have HB0 := Aside0.mk hB
  have HH0 := Aside0.mk hh
  clear hB hh hn
  go_wp2
  go_loopg [6] l.length (fun gg v6 wr => ∃ i : Nat, i ≤ l.length ∧ l.length - i ≤ gg ∧ v6 = .int .i64 i ∧ Aside0 (Held wr s b (addsL (l.take i) [])) ∧ Aside0 (Below W.heap.size W wr))
  case atStart => exact ⟨0, Nat.zero_le _, by omega, rfl, HH0, HB0⟩
  case round =>
    obtain ⟨i, hi, hg, rfl, H1, HB⟩ := hrel
    clear HH0 HB0
    have tame := (Tame.nil).adds (l.take i)
    by_cases go : i < l.length ∧ i < 100
    · obtain ⟨hlt, h200⟩ := go
      have b2 : decide ((i : Int) < (l.length : Int)) = true := decide_eq_true (by omega)
      have b3 : decide ((i : Int) < 100) = true := decide_eq_true (by omega)
      obtain ⟨ad, e, x0, x1⟩ := at_T29 (Kd.C_below HL.out HW.out) (i : Int) (by omega) (by omega)
      cases e
      have hb1 := World.block_lt_of_cell? W _ x0
      rw [rd_at l i hlt, Int.toNat_natCast] at x0 x1
      rw [Int.toNat_natCast] at hb1
      replace x0 := (HB.out.cell hb1).trans x0
      replace x1 := (HB.out.cell (p := ⟨(ad.add (i * 2)).block, (ad.add (i * 2)).off + 1, none⟩) hb1).trans x1
      have hA := Add.calls s b _ l[i] (hwf _ (List.getElem_mem _)) wr H1.out (by have := tame.len; omega)
      rw [← addsL_take l i hlt []] at hA
      clear tame H1
      generalize l[i] = xi at *
      go_wp2_with (go_at_call 10; refine hA.mono ?_; rintro e3 w3 ⟨rfl, h3, g3⟩; have B3 := HB.out.trans (grown_below g3 hb HB.out.size))
      go_roundg (l.length - (i + 1))
      case measure => omega
      case rel => exact ⟨i + 1, by omega, Nat.le_refl _, by go_num, ⟨h3⟩, ⟨B3⟩⟩
    · have HX : Aside0 (¬ ((i : Int) < (l.length : Int) ∧ (i : Int) < 100)) := ⟨by omega⟩
      have h1 := H1.out
      generalize addsL (l.take i) [] = L at h1 tame
      have hlen : L.length ≤ 1000 := by have := tame.len; omega
      have hL := List.calls s b L wr h1 hlen
      have HH := Aside0.mk h1
      have hltb := h1.ltb
      have KS := Aside0.mk (fun A1 A2 c1 c2 w1 => Same.calls L hlen A1 A2 c1 c2 w1)
      have hhas := fun (M : List C) (V : World) (h : Held V s b M) => Has.calls s b M c hc V h
      have hw := ways L c tame h1.sorted
      clear H1 h1 tame HL
      by_cases z : (i : Int) < (l.length : Int)
      · have b2 : decide ((i : Int) < (l.length : Int)) = true := decide_eq_true z
        have b3 : decide ((i : Int) < 100) = false := decide_eq_false (fun y => HX.out ⟨z, y⟩)
        obtain ⟨x0, x1⟩ := HS.out wr HB.out
        rcases hw with ⟨L3, hy, hl3⟩ | ⟨L2, hy⟩ | ⟨ev, hy, hev⟩
        · have hadd := fun (V : World) (h : Held V s b L) => Add.calls s b L c hc V h hlen
          rw [hy.add.1, hy.add.2] at hadd
          have hdrop := fun (V : World) (h : Held V s b L) => Drop.calls s b L c V h hy.len2
          rw [hy.drop, hy.is_] at hdrop
          have has1 := hhas L
          rw [hy.th] at has1
          have hasB := hhas L
          rw [hy.is_] at hasB
          have hasC := hhas L3
          rw [hy.has3] at hasC
          have e1 : ((L3.length : Int) == (L.length : Int) - 1) = true := beq_iff_eq.mpr (by omega)
          have e2 : (L3.length : Int) = (L.length : Int) - 1 := by omega
          clear hy hhas
          go_wp2_with (first | (go_at_call 12; first | ((with_reducible refine hL.mono ?_); rintro e3 w3 ⟨v, rfl, R1, B1⟩; obtain ⟨A1, k1, rfl, hk1, hC1⟩ := Kd.R_reads R1; have R3 : k29.R 29 w3 wr.heap.size (fun k => wr.heap.size ≤ k) (.slice A1 L.length k1) L := Kd.R_mono (Kd.R_bound R1) (fun k hk => hk.2.1); have hh3 := HH.out.below B1; have B3 := below_go HB.out HB.out.size B1; obtain ⟨y0, y1⟩ := HS.out w3 B3; clear hL R1 B1 hC1 x0 x1) | ((with_reducible refine (hL8 _ hh7).mono ?_); rintro e8 w8 ⟨v8, rfl, R8, b8⟩; obtain ⟨A2, k2, rfl, hk2, hC2⟩ := Kd.R_reads R8; have HC2 := Aside0.mk hC2; have RD := Kd.R_below R7 b8; have B8 := below_go B7 B7.size b8; clear hC2 R8 b8)) | (go_at_call 14; first | ((with_reducible refine (has1 _ hh3).mono ?_); rintro e4 w4 ⟨rfl, b4⟩; have hh4 := hh3.below b4; have R4 := Kd.R_below R3 b4; have B4 := below_go B3 B3.size b4; clear y0 y1 R3 hh3 b4 has1 B3; obtain ⟨y0, y1⟩ := HS.out w4 B4) | ((with_reducible refine (hasB _ hh5).mono ?_); rintro e6 w6 ⟨rfl, b6⟩; have hh6 := hh5.below b6; have R6 := Kd.R_below R5 b6; have B6 := below_go B5 B5.size b6; clear y0 y1 R5 hh5 b6 hasB B5; obtain ⟨y0, y1⟩ := HS.out w6 B6) | ((with_reducible refine (hasC _ hh7).mono ?_); rintro e8 w8 ⟨rfl, b8⟩; have hh8 := hh7.below b8; have B8 := below_go B7 B7.size b8; clear y0 y1 hh7 b8 hasC)) | (go_at_call 10; refine (hadd _ hh4).mono ?_; rintro e5 w5 ⟨rfl, hh5, g5⟩; have R5 := Kd.R_grown R4 g5 (fun k hk => by simp; omega); have B5 := B4.trans (grown_below g5 hb B4.size); clear y0 y1 R4 hh4 g5 hadd B4; obtain ⟨y0, y1⟩ := HS.out w5 B5) | (go_at_call 16; refine (hdrop _ hh6).mono ?_; rintro e7 w7 ⟨rfl, hh7, g7⟩; have R7 := Kd.R_grown R6 g7 (fun k hk => by simp; omega); have B7 := B6.trans (grown_below g7 hb B6.size); clear y0 y1 R6 hh6 g7 hdrop B6; obtain ⟨y0, y1⟩ := HS.out w7 B7) | (go_at_call 11; refine (KS.out _ _ _ _ _ HC2.out hk2 (Kd.R_reads' RD).2.2 hk1).mono ?_; rintro e9 w9 ⟨rfl, d9⟩; have B9 := below_go B8 B8.size d9.below; clear d9) | (go_at_call 15; refine (Len.calls s b _ _ hh8).mono ?_; rintro e9 w9 ⟨rfl, d9⟩; have B9 := below_go B8 B8.size d9.below; clear d9) | (go_at_call 9; refine (hk _).mono ?_; rintro e10 w10 ⟨rfl, B10⟩))
          go_ret
          exact ⟨rfl, HW.out.trans ((below_go B9 B9.size B10).mono HW.out.size)⟩
        · have hadd := fun (V : World) (h : Held V s b L) => Add.calls s b L c hc V h hlen
          rw [hy.add.1, hy.add.2] at hadd
          have hdrop := fun (V : World) (h : Held V s b L2) => Drop.calls s b L2 c V h hy.len2
          rw [hy.drop, hy.is_] at hdrop
          have has1 := hhas L
          rw [hy.th] at has1
          have hasB := hhas L2
          rw [hy.is_] at hasB
          have hasC := hhas L
          rw [hy.has3] at hasC
          have hL8 := fun (V : World) (h : Held V s b L) => List.calls s b L V h hlen
          clear hy hhas
          go_wp2_with (first | (go_at_call 12; first | ((with_reducible refine hL.mono ?_); rintro e3 w3 ⟨v, rfl, R1, B1⟩; obtain ⟨A1, k1, rfl, hk1, hC1⟩ := Kd.R_reads R1; have R3 : k29.R 29 w3 wr.heap.size (fun k => wr.heap.size ≤ k) (.slice A1 L.length k1) L := Kd.R_mono (Kd.R_bound R1) (fun k hk => hk.2.1); have hh3 := HH.out.below B1; have B3 := below_go HB.out HB.out.size B1; obtain ⟨y0, y1⟩ := HS.out w3 B3; clear hL R1 B1 hC1 x0 x1) | ((with_reducible refine (hL8 _ hh7).mono ?_); rintro e8 w8 ⟨v8, rfl, R8, b8⟩; obtain ⟨A2, k2, rfl, hk2, hC2⟩ := Kd.R_reads R8; have HC2 := Aside0.mk hC2; have RD := Kd.R_below R7 b8; have B8 := below_go B7 B7.size b8; clear hC2 R8 b8)) | (go_at_call 14; first | ((with_reducible refine (has1 _ hh3).mono ?_); rintro e4 w4 ⟨rfl, b4⟩; have hh4 := hh3.below b4; have R4 := Kd.R_below R3 b4; have B4 := below_go B3 B3.size b4; clear y0 y1 R3 hh3 b4 has1 B3; obtain ⟨y0, y1⟩ := HS.out w4 B4) | ((with_reducible refine (hasB _ hh5).mono ?_); rintro e6 w6 ⟨rfl, b6⟩; have hh6 := hh5.below b6; have R6 := Kd.R_below R5 b6; have B6 := below_go B5 B5.size b6; clear y0 y1 R5 hh5 b6 hasB B5; obtain ⟨y0, y1⟩ := HS.out w6 B6) | ((with_reducible refine (hasC _ hh7).mono ?_); rintro e8 w8 ⟨rfl, b8⟩; have hh8 := hh7.below b8; have B8 := below_go B7 B7.size b8; clear y0 y1 hh7 b8 hasC)) | (go_at_call 10; refine (hadd _ hh4).mono ?_; rintro e5 w5 ⟨rfl, hh5, g5⟩; have R5 := Kd.R_grown R4 g5 (fun k hk => by simp; omega); have B5 := B4.trans (grown_below g5 hb B4.size); clear y0 y1 R4 hh4 g5 hadd B4; obtain ⟨y0, y1⟩ := HS.out w5 B5) | (go_at_call 16; refine (hdrop _ hh6).mono ?_; rintro e7 w7 ⟨rfl, hh7, g7⟩; have R7 := Kd.R_grown R6 g7 (fun k hk => by simp; omega); have B7 := B6.trans (grown_below g7 hb B6.size); clear y0 y1 R6 hh6 g7 hdrop B6; obtain ⟨y0, y1⟩ := HS.out w7 B7) | (go_at_call 11; refine (KS.out _ _ _ _ _ HC2.out hk2 (Kd.R_reads' RD).2.2 hk1).mono ?_; rintro e9 w9 ⟨rfl, d9⟩; have B9 := below_go B8 B8.size d9.below; clear d9) | (go_at_call 15; refine (Len.calls s b _ _ hh8).mono ?_; rintro e9 w9 ⟨rfl, d9⟩; have B9 := below_go B8 B8.size d9.below; clear d9) | (go_at_call 9; refine (hk _).mono ?_; rintro e10 w10 ⟨rfl, B10⟩))
          go_ret
          exact ⟨rfl, HW.out.trans ((below_go B9 B9.size B10).mono HW.out.size)⟩
        · have hadd := fun (V : World) (h : Held V s b L) => Add.calls s b L c hc V h hlen
          rw [hy.add.1, hy.add.2] at hadd
          have hdrop := fun (V : World) (h : Held V s b L) => Drop.calls s b L c V h hy.len2
          rw [hy.drop, hy.is_] at hdrop
          have has1 := hhas L
          rw [hy.th] at has1
          have hasB := hhas L
          rw [hy.is_] at hasB
          have hasC := hhas L
          rw [hy.has3] at hasC
          have hL8 := fun (V : World) (h : Held V s b L) => List.calls s b L V h hlen
          clear hy hhas
          go_wp2_with (first | (go_at_call 12; first | ((with_reducible refine hL.mono ?_); rintro e3 w3 ⟨v, rfl, R1, B1⟩; obtain ⟨A1, k1, rfl, hk1, hC1⟩ := Kd.R_reads R1; have R3 : k29.R 29 w3 wr.heap.size (fun k => wr.heap.size ≤ k) (.slice A1 L.length k1) L := Kd.R_mono (Kd.R_bound R1) (fun k hk => hk.2.1); have hh3 := HH.out.below B1; have B3 := below_go HB.out HB.out.size B1; obtain ⟨y0, y1⟩ := HS.out w3 B3; clear hL R1 B1 hC1 x0 x1) | ((with_reducible refine (hL8 _ hh7).mono ?_); rintro e8 w8 ⟨v8, rfl, R8, b8⟩; obtain ⟨A2, k2, rfl, hk2, hC2⟩ := Kd.R_reads R8; have HC2 := Aside0.mk hC2; have RD := Kd.R_below R7 b8; have B8 := below_go B7 B7.size b8; clear hC2 R8 b8)) | (go_at_call 14; first | ((with_reducible refine (has1 _ hh3).mono ?_); rintro e4 w4 ⟨rfl, b4⟩; have hh4 := hh3.below b4; have R4 := Kd.R_below R3 b4; have B4 := below_go B3 B3.size b4; clear y0 y1 R3 hh3 b4 has1 B3; obtain ⟨y0, y1⟩ := HS.out w4 B4) | ((with_reducible refine (hasB _ hh5).mono ?_); rintro e6 w6 ⟨rfl, b6⟩; have hh6 := hh5.below b6; have R6 := Kd.R_below R5 b6; have B6 := below_go B5 B5.size b6; clear y0 y1 R5 hh5 b6 hasB B5; obtain ⟨y0, y1⟩ := HS.out w6 B6) | ((with_reducible refine (hasC _ hh7).mono ?_); rintro e8 w8 ⟨rfl, b8⟩; have hh8 := hh7.below b8; have B8 := below_go B7 B7.size b8; clear y0 y1 hh7 b8 hasC)) | (go_at_call 10; refine (hadd _ hh4).mono ?_; rintro e5 w5 ⟨rfl, hh5, g5⟩; have R5 := Kd.R_grown R4 g5 (fun k hk => by simp; omega); have B5 := B4.trans (grown_below g5 hb B4.size); clear y0 y1 R4 hh4 g5 hadd B4; obtain ⟨y0, y1⟩ := HS.out w5 B5) | (go_at_call 16; refine (hdrop _ hh6).mono ?_; rintro e7 w7 ⟨rfl, hh7, g7⟩; have R7 := Kd.R_grown R6 g7 (fun k hk => by simp; omega); have B7 := B6.trans (grown_below g7 hb B6.size); clear y0 y1 R6 hh6 g7 hdrop B6; obtain ⟨y0, y1⟩ := HS.out w7 B7) | (go_at_call 11; refine (KS.out _ _ _ _ _ HC2.out hk2 (Kd.R_reads' RD).2.2 hk1).mono ?_; rintro e9 w9 ⟨rfl, d9⟩; have B9 := below_go B8 B8.size d9.below; clear d9) | (go_at_call 15; refine (Len.calls s b _ _ hh8).mono ?_; rintro e9 w9 ⟨rfl, d9⟩; have B9 := below_go B8 B8.size d9.below; clear d9) | (go_at_call 9; refine (hk _).mono ?_; rintro e10 w10 ⟨rfl, B10⟩))
          go_ret
          exact ⟨rfl, HW.out.trans ((below_go B9 B9.size B10).mono HW.out.size)⟩
      · have b2 : decide ((i : Int) < (l.length : Int)) = false := decide_eq_false z
        obtain ⟨x0, x1⟩ := HS.out wr HB.out
        rcases hw with ⟨L3, hy, hl3⟩ | ⟨L2, hy⟩ | ⟨ev, hy, hev⟩
        · have hadd := fun (V : World) (h : Held V s b L) => Add.calls s b L c hc V h hlen
          rw [hy.add.1, hy.add.2] at hadd
          have hdrop := fun (V : World) (h : Held V s b L) => Drop.calls s b L c V h hy.len2
          rw [hy.drop, hy.is_] at hdrop
          have has1 := hhas L
          rw [hy.th] at has1
          have hasB := hhas L
          rw [hy.is_] at hasB
          have hasC := hhas L3
          rw [hy.has3] at hasC
          have e1 : ((L3.length : Int) == (L.length : Int) - 1) = true := beq_iff_eq.mpr (by omega)
          have e2 : (L3.length : Int) = (L.length : Int) - 1 := by omega
          clear hy hhas
          go_wp2_with (first | (go_at_call 12; first | ((with_reducible refine hL.mono ?_); rintro e3 w3 ⟨v, rfl, R1, B1⟩; obtain ⟨A1, k1, rfl, hk1, hC1⟩ := Kd.R_reads R1; have R3 : k29.R 29 w3 wr.heap.size (fun k => wr.heap.size ≤ k) (.slice A1 L.length k1) L := Kd.R_mono (Kd.R_bound R1) (fun k hk => hk.2.1); have hh3 := HH.out.below B1; have B3 := below_go HB.out HB.out.size B1; obtain ⟨y0, y1⟩ := HS.out w3 B3; clear hL R1 B1 hC1 x0 x1) | ((with_reducible refine (hL8 _ hh7).mono ?_); rintro e8 w8 ⟨v8, rfl, R8, b8⟩; obtain ⟨A2, k2, rfl, hk2, hC2⟩ := Kd.R_reads R8; have HC2 := Aside0.mk hC2; have RD := Kd.R_below R7 b8; have B8 := below_go B7 B7.size b8; clear hC2 R8 b8)) | (go_at_call 14; first | ((with_reducible refine (has1 _ hh3).mono ?_); rintro e4 w4 ⟨rfl, b4⟩; have hh4 := hh3.below b4; have R4 := Kd.R_below R3 b4; have B4 := below_go B3 B3.size b4; clear y0 y1 R3 hh3 b4 has1 B3; obtain ⟨y0, y1⟩ := HS.out w4 B4) | ((with_reducible refine (hasB _ hh5).mono ?_); rintro e6 w6 ⟨rfl, b6⟩; have hh6 := hh5.below b6; have R6 := Kd.R_below R5 b6; have B6 := below_go B5 B5.size b6; clear y0 y1 R5 hh5 b6 hasB B5; obtain ⟨y0, y1⟩ := HS.out w6 B6) | ((with_reducible refine (hasC _ hh7).mono ?_); rintro e8 w8 ⟨rfl, b8⟩; have hh8 := hh7.below b8; have B8 := below_go B7 B7.size b8; clear y0 y1 hh7 b8 hasC)) | (go_at_call 10; refine (hadd _ hh4).mono ?_; rintro e5 w5 ⟨rfl, hh5, g5⟩; have R5 := Kd.R_grown R4 g5 (fun k hk => by simp; omega); have B5 := B4.trans (grown_below g5 hb B4.size); clear y0 y1 R4 hh4 g5 hadd B4; obtain ⟨y0, y1⟩ := HS.out w5 B5) | (go_at_call 16; refine (hdrop _ hh6).mono ?_; rintro e7 w7 ⟨rfl, hh7, g7⟩; have R7 := Kd.R_grown R6 g7 (fun k hk => by simp; omega); have B7 := B6.trans (grown_below g7 hb B6.size); clear y0 y1 R6 hh6 g7 hdrop B6; obtain ⟨y0, y1⟩ := HS.out w7 B7) | (go_at_call 11; refine (KS.out _ _ _ _ _ HC2.out hk2 (Kd.R_reads' RD).2.2 hk1).mono ?_; rintro e9 w9 ⟨rfl, d9⟩; have B9 := below_go B8 B8.size d9.below; clear d9) | (go_at_call 15; refine (Len.calls s b _ _ hh8).mono ?_; rintro e9 w9 ⟨rfl, d9⟩; have B9 := below_go B8 B8.size d9.below; clear d9) | (go_at_call 9; refine (hk _).mono ?_; rintro e10 w10 ⟨rfl, B10⟩))
          go_ret
          exact ⟨rfl, HW.out.trans ((below_go B9 B9.size B10).mono HW.out.size)⟩
        · have hadd := fun (V : World) (h : Held V s b L) => Add.calls s b L c hc V h hlen
          rw [hy.add.1, hy.add.2] at hadd
          have hdrop := fun (V : World) (h : Held V s b L2) => Drop.calls s b L2 c V h hy.len2
          rw [hy.drop, hy.is_] at hdrop
          have has1 := hhas L
          rw [hy.th] at has1
          have hasB := hhas L2
          rw [hy.is_] at hasB
          have hasC := hhas L
          rw [hy.has3] at hasC
          have hL8 := fun (V : World) (h : Held V s b L) => List.calls s b L V h hlen
          clear hy hhas
          go_wp2_with (first | (go_at_call 12; first | ((with_reducible refine hL.mono ?_); rintro e3 w3 ⟨v, rfl, R1, B1⟩; obtain ⟨A1, k1, rfl, hk1, hC1⟩ := Kd.R_reads R1; have R3 : k29.R 29 w3 wr.heap.size (fun k => wr.heap.size ≤ k) (.slice A1 L.length k1) L := Kd.R_mono (Kd.R_bound R1) (fun k hk => hk.2.1); have hh3 := HH.out.below B1; have B3 := below_go HB.out HB.out.size B1; obtain ⟨y0, y1⟩ := HS.out w3 B3; clear hL R1 B1 hC1 x0 x1) | ((with_reducible refine (hL8 _ hh7).mono ?_); rintro e8 w8 ⟨v8, rfl, R8, b8⟩; obtain ⟨A2, k2, rfl, hk2, hC2⟩ := Kd.R_reads R8; have HC2 := Aside0.mk hC2; have RD := Kd.R_below R7 b8; have B8 := below_go B7 B7.size b8; clear hC2 R8 b8)) | (go_at_call 14; first | ((with_reducible refine (has1 _ hh3).mono ?_); rintro e4 w4 ⟨rfl, b4⟩; have hh4 := hh3.below b4; have R4 := Kd.R_below R3 b4; have B4 := below_go B3 B3.size b4; clear y0 y1 R3 hh3 b4 has1 B3; obtain ⟨y0, y1⟩ := HS.out w4 B4) | ((with_reducible refine (hasB _ hh5).mono ?_); rintro e6 w6 ⟨rfl, b6⟩; have hh6 := hh5.below b6; have R6 := Kd.R_below R5 b6; have B6 := below_go B5 B5.size b6; clear y0 y1 R5 hh5 b6 hasB B5; obtain ⟨y0, y1⟩ := HS.out w6 B6) | ((with_reducible refine (hasC _ hh7).mono ?_); rintro e8 w8 ⟨rfl, b8⟩; have hh8 := hh7.below b8; have B8 := below_go B7 B7.size b8; clear y0 y1 hh7 b8 hasC)) | (go_at_call 10; refine (hadd _ hh4).mono ?_; rintro e5 w5 ⟨rfl, hh5, g5⟩; have R5 := Kd.R_grown R4 g5 (fun k hk => by simp; omega); have B5 := B4.trans (grown_below g5 hb B4.size); clear y0 y1 R4 hh4 g5 hadd B4; obtain ⟨y0, y1⟩ := HS.out w5 B5) | (go_at_call 16; refine (hdrop _ hh6).mono ?_; rintro e7 w7 ⟨rfl, hh7, g7⟩; have R7 := Kd.R_grown R6 g7 (fun k hk => by simp; omega); have B7 := B6.trans (grown_below g7 hb B6.size); clear y0 y1 R6 hh6 g7 hdrop B6; obtain ⟨y0, y1⟩ := HS.out w7 B7) | (go_at_call 11; refine (KS.out _ _ _ _ _ HC2.out hk2 (Kd.R_reads' RD).2.2 hk1).mono ?_; rintro e9 w9 ⟨rfl, d9⟩; have B9 := below_go B8 B8.size d9.below; clear d9) | (go_at_call 15; refine (Len.calls s b _ _ hh8).mono ?_; rintro e9 w9 ⟨rfl, d9⟩; have B9 := below_go B8 B8.size d9.below; clear d9) | (go_at_call 9; refine (hk _).mono ?_; rintro e10 w10 ⟨rfl, B10⟩))
          go_ret
          exact ⟨rfl, HW.out.trans ((below_go B9 B9.size B10).mono HW.out.size)⟩
        · have hadd := fun (V : World) (h : Held V s b L) => Add.calls s b L c hc V h hlen
          rw [hy.add.1, hy.add.2] at hadd
          have hdrop := fun (V : World) (h : Held V s b L) => Drop.calls s b L c V h hy.len2
          rw [hy.drop, hy.is_] at hdrop
          have has1 := hhas L
          rw [hy.th] at has1
          have hasB := hhas L
          rw [hy.is_] at hasB
          have hasC := hhas L
          rw [hy.has3] at hasC
          have hL8 := fun (V : World) (h : Held V s b L) => List.calls s b L V h hlen
          clear hy hhas
          go_wp2_with (first | (go_at_call 12; first | ((with_reducible refine hL.mono ?_); rintro e3 w3 ⟨v, rfl, R1, B1⟩; obtain ⟨A1, k1, rfl, hk1, hC1⟩ := Kd.R_reads R1; have R3 : k29.R 29 w3 wr.heap.size (fun k => wr.heap.size ≤ k) (.slice A1 L.length k1) L := Kd.R_mono (Kd.R_bound R1) (fun k hk => hk.2.1); have hh3 := HH.out.below B1; have B3 := below_go HB.out HB.out.size B1; obtain ⟨y0, y1⟩ := HS.out w3 B3; clear hL R1 B1 hC1 x0 x1) | ((with_reducible refine (hL8 _ hh7).mono ?_); rintro e8 w8 ⟨v8, rfl, R8, b8⟩; obtain ⟨A2, k2, rfl, hk2, hC2⟩ := Kd.R_reads R8; have HC2 := Aside0.mk hC2; have RD := Kd.R_below R7 b8; have B8 := below_go B7 B7.size b8; clear hC2 R8 b8)) | (go_at_call 14; first | ((with_reducible refine (has1 _ hh3).mono ?_); rintro e4 w4 ⟨rfl, b4⟩; have hh4 := hh3.below b4; have R4 := Kd.R_below R3 b4; have B4 := below_go B3 B3.size b4; clear y0 y1 R3 hh3 b4 has1 B3; obtain ⟨y0, y1⟩ := HS.out w4 B4) | ((with_reducible refine (hasB _ hh5).mono ?_); rintro e6 w6 ⟨rfl, b6⟩; have hh6 := hh5.below b6; have R6 := Kd.R_below R5 b6; have B6 := below_go B5 B5.size b6; clear y0 y1 R5 hh5 b6 hasB B5; obtain ⟨y0, y1⟩ := HS.out w6 B6) | ((with_reducible refine (hasC _ hh7).mono ?_); rintro e8 w8 ⟨rfl, b8⟩; have hh8 := hh7.below b8; have B8 := below_go B7 B7.size b8; clear y0 y1 hh7 b8 hasC)) | (go_at_call 10; refine (hadd _ hh4).mono ?_; rintro e5 w5 ⟨rfl, hh5, g5⟩; have R5 := Kd.R_grown R4 g5 (fun k hk => by simp; omega); have B5 := B4.trans (grown_below g5 hb B4.size); clear y0 y1 R4 hh4 g5 hadd B4; obtain ⟨y0, y1⟩ := HS.out w5 B5) | (go_at_call 16; refine (hdrop _ hh6).mono ?_; rintro e7 w7 ⟨rfl, hh7, g7⟩; have R7 := Kd.R_grown R6 g7 (fun k hk => by simp; omega); have B7 := B6.trans (grown_below g7 hb B6.size); clear y0 y1 R6 hh6 g7 hdrop B6; obtain ⟨y0, y1⟩ := HS.out w7 B7) | (go_at_call 11; refine (KS.out _ _ _ _ _ HC2.out hk2 (Kd.R_reads' RD).2.2 hk1).mono ?_; rintro e9 w9 ⟨rfl, d9⟩; have B9 := below_go B8 B8.size d9.below; clear d9) | (go_at_call 15; refine (Len.calls s b _ _ hh8).mono ?_; rintro e9 w9 ⟨rfl, d9⟩; have B9 := below_go B8 B8.size d9.below; clear d9) | (go_at_call 9; refine (hk _).mono ?_; rintro e10 w10 ⟨rfl, B10⟩))
          go_ret
          exact ⟨rfl, HW.out.trans ((below_go B9 B9.size B10).mono HW.out.size)⟩
end Go.Proofs.Ythneeibphelofaa.QCondPlays
