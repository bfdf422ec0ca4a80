/- The reference's pool: all or nothing; all that an owner holds. No conditions beyond those that each theorem names. -/
import Derived.Test.YtgepalpcaphbeaaQPoolPlaysPoolRefTake
namespace Go.Proofs.Ytgepalpcaphbeaa.QPoolPlays
open Go.RowKit Go.Proofs.Ytgepalpcaphbeaa.PPoolPlays Go.Proofs.YtgepalpcaphbeaaW.PrintWords Go.Proofs.YtgepalpcaphbeaaW.PrintLast Go.Proofs.YtgepalpcaphbeaaW.PrintMore Go.Proofs.Ytgepalpcaphbeaa.MMaps
set_option linter.unusedVariables false
set_option linter.unusedSimpArgs false
set_option maxRecDepth 100000
theorem row_ne {w : World} {r : Nat} {v1 v2 : Value} {t : TypeId} (h : w.heap[r]? = some (.cells #[v1, v2] t (0, 0))) (h1 : ∀ s, v1 ≠ .string s) (h2 : ∀ s, v2 ≠ .string s) {a : Addr} {s : ByteArray} (hc : w.cell? a = some (.string s)) : a.block ≠ r := by
  intro e
  subst e
  unfold World.cell? at hc
  rw [h] at hc
  simp only at hc
  match ho : a.off with
  | 0 => rw [ho] at hc; simp at hc; first | exact h1 s hc | (obtain ⟨_, hc⟩ := hc; exact h1 s hc)
  | 1 => rw [ho] at hc; simp at hc; first | exact h2 s hc | (obtain ⟨_, hc⟩ := hc; exact h2 s hc)
  | n + 2 => rw [ho] at hc; simp at hc
theorem takes_take' (o : Int) (L : List Nr) (H : List Hd) (i : Nat) (h : i < L.length) : takes o ((L.take (i + 1)).map toN) H = putH (heldAs o (toN L[i])) (takes o ((L.take i).map toN) H) := by
  unfold takes
  rw [List.take_succ_eq_append_getElem h, List.map_append, List.foldl_append]; rfl
set_option maxHeartbeats 16000000 in
theorem RTake.calls (r : Nat) (ok : Nat → Prop) (R : List Rs) (H : List Hd) (o : Int) (A0 : Option Addr) (c0 : Nat) (L : List Nr) (w : World) (h : RefAt w r ok R H) (hgd : Good R H) (hC : Kd.C k74 w A0 L.length L) (hc : L.length ≤ c0) (hll : L.length ≤ 1000000000000000) (hlen : mayOf R H o (ndL L) = 0 → H.length + L.length ≤ 100000) (hok : ∀ k, w.heap.size ≤ k → ok k) (hokr : ¬ ok r) : Calls Try.prog 17 #[.pointer (some ⟨r, 0, none⟩), .int .i64 o, .slice A0 L.length c0] w fun e w' => e = .returned (.int .i64 (mayOf R H o (ndL L))) ∧ RefAt w' r ok R (takeOf R H o (ndL L)) ∧ w.grownBy w' (some r) := by
  have hM := RMay.calls r ok R H o A0 c0 L w h hgd hC hc hll
  rw [show L.map toN = ndL L from rfl] at hM
  obtain ⟨M, hMM⟩ : ∃ M, takeOf R H o (ndL L) = M := ⟨_, rfl⟩
  rw [hMM]
  have HMM := Aside0.mk hMM
  have HR := Aside0.mk h
  have HC := Aside0.mk hC
  clear h hC hMM
  by_cases hz : mayOf R H o (ndL L) = 0
  · have hln := hlen hz
    have HX := Aside0.mk (show takes o (ndL L) H = M by rw [← HMM.out, takeOf, if_pos hz])
    rw [hz] at hM ⊢
    clear hz hlen
    go_enter Try.func17, Try.ntmps17
    go_wp2_with (go_at_call 32; refine hM.mono ?_; rintro e w1 ⟨rfl, B1⟩)
    go_loopg [8] L.length (fun gg v8 wr => ∃ i : Nat, i ≤ L.length ∧ L.length - i ≤ gg ∧ v8 = .int .i64 i ∧ Aside0 (RefAt wr r ok R (takes o ((L.take i).map toN) H)) ∧ Aside0 (w.grownBy wr (some r)))
    case atStart => exact ⟨0, Nat.zero_le _, by omega, rfl, ⟨HR.out.below B1⟩, ⟨below_grown B1 _⟩⟩
    case round =>
      obtain ⟨i, hi, hg, rfl, HRR, HGR⟩ := hrel
      by_cases hlt : i < L.length
      · have b2 : decide ((i : Int) < (L.length : Int)) = true := decide_eq_true (by omega)
        have b3 : (i : Int) < (L.length : Int) := by omega
        have hz0 : (0 : Int) ≤ (i : Int) := by omega
        obtain ⟨ad, e, x0, x1, x2⟩ := at_T74 HC.out (i : Int) hz0 b3
        cases e
        have hbk := World.block_lt_of_cell? w _ x0
        have hnm : (ad.add ((i : Int).toNat * 3)).block ≠ r := by obtain ⟨B1, d1, B2, d2, hb, _⟩ := HR.out.own; exact row_ne hb (fun s e => by cases e) (fun s e => by cases e) x0
        rw [rdnr_at L i hlt, Int.toNat_natCast] at x0 x1 x2
        rw [Int.toNat_natCast] at hbk hnm
        have htt := takes_take' o L H i hlt
        have hblk := HGR.out.block _ hbk (by simpa using hnm)
        obtain ⟨x, hx⟩ : ∃ x, L[i] = x := ⟨_, rfl⟩
        rw [hx] at x0 x1 x2 htt
        clear hx
        have HTT := Aside0.mk htt
        have hgz := HGR.out.size
        have hFl : (takes o ((L.take i).map toN) H).length ≤ 100000 := by rw [takes_length, List.length_map, List.length_take]; omega
        have HS : Aside0 (∀ W : World, Below wr.heap.size wr W → W.cell? (ad.add (i * 3)) = some (.string x.f0) ∧ W.cell? ⟨(ad.add (i * 3)).block, (ad.add (i * 3)).off + 1, none⟩ = some (.int .i64 x.f1) ∧ W.cell? ⟨(ad.add (i * 3)).block, (ad.add (i * 3)).off + 2, none⟩ = some (.int .i64 x.f2)) := ⟨fun W hW => by
          have e1 := (World.cell?_of_block (w := w) (a := ad.add (i * 3)) hblk).trans x0
          have e2 := (World.cell?_of_block (w := w) (a := ⟨(ad.add (i * 3)).block, (ad.add (i * 3)).off + 1, none⟩) hblk).trans x1
          have e3 := (World.cell?_of_block (w := w) (a := ⟨(ad.add (i * 3)).block, (ad.add (i * 3)).off + 2, none⟩) hblk).trans x2
          exact ⟨(hW.cell (World.block_lt_of_cell? wr _ e1)).trans e1, (hW.cell (World.block_lt_of_cell? wr _ e2)).trans e2, (hW.cell (World.block_lt_of_cell? wr _ e3)).trans e3⟩⟩
        clear x0 x1 x2 htt hblk
        generalize takes o ((L.take i).map toN) H = F at *
        have hP := fun (W : World) (hW : Below wr.heap.size wr W) => put.calls r ok R F (heldAs o (toN x)) W (HRR.out.below hW) hFl (fun k hk => hok k (Nat.le_trans hgz (Nat.le_trans hW.size hk))) hokr
        obtain ⟨x0, x1, x2⟩ := HS.out wr (Below.refl _ _)
        have hbd : ∀ o, Below wr.heap.size wr ((wr.alloc o).drew) := fun o => below_drew1 (below_alloc (Below.refl _ _) _)
        have hbe : Below wr.heap.size wr wr.drew := below_drew1 (Below.refl _ _)
        have z0 := fun o => (HS.out _ (hbd o)).1
        have z1 := fun o => (HS.out _ (hbd o)).2.1
        have z2 := fun o => (HS.out _ (hbd o)).2.2
        obtain ⟨z3, z4, z5⟩ := HS.out _ hbe
        go_upto_region 7 with (fail)
        go_region
        obtain ⟨V, hV⟩ : ∃ V, V = (wr.alloc (.cells #[.int .i64 o, .string x.f0, .int .i64 0, .int .i64 x.f2] 55 (0, 0))).drew := ⟨_, rfl⟩
        have hbV : Below wr.heap.size wr V := by rw [hV]; exact hbd _
        have kb : V.heap[wr.heap.size]? = some (.cells #[.int .i64 o, .string x.f0, .int .i64 0, .int .i64 x.f2] 55 (0, 0)) := by rw [hV]; exact blk_new _ _
        rw [← hV]
        clear hV x0 x1 x2 z0 z1 z2 z3 z4 z5 hbd hbe
        obtain ⟨x0, x1, x2⟩ := HS.out V hbV
        have y0 : V.cell? ⟨wr.heap.size, 0, none⟩ = some (.int .i64 o) := blk_cell kb 0
        have y1 : V.cell? ⟨wr.heap.size, 1, none⟩ = some (.string x.f0) := blk_cell kb 1
        have y2 : V.cell? ⟨wr.heap.size, 2, none⟩ = some (.int .i64 0) := blk_cell kb 2
        have y3 : V.cell? ⟨wr.heap.size, 3, none⟩ = some (.int .i64 x.f2) := blk_cell kb 3
        by_cases m0 : x.f2 = 0
        · have t0 : (x.f2 == 0) = true := beq_iff_eq.mpr m0
          have hfr := blk_frozen kb 2
          have hP2 := hP (V.setCell ⟨wr.heap.size, 2, none⟩ (.int .i64 x.f1)) (below_set hbV (Nat.le_refl _))
          have kb2 := blk_set kb 2 (.int .i64 x.f1)
          rw [show heldAs o (toN x) = ⟨o, x.f0, x.f1, x.f2⟩ by unfold heldAs toN; dsimp only; rw [if_pos m0]] at hP2 HTT
          have v0 : (V.setCell ⟨wr.heap.size, 2, none⟩ (.int .i64 x.f1)).cell? ⟨wr.heap.size, 0, none⟩ = some (.int .i64 o) := blk_cell kb2 0
          have v1 : (V.setCell ⟨wr.heap.size, 2, none⟩ (.int .i64 x.f1)).cell? ⟨wr.heap.size, 1, none⟩ = some (.string x.f0) := blk_cell kb2 1
          have v2 : (V.setCell ⟨wr.heap.size, 2, none⟩ (.int .i64 x.f1)).cell? ⟨wr.heap.size, 2, none⟩ = some (.int .i64 x.f1) := blk_cell kb2 2
          have v3 : (V.setCell ⟨wr.heap.size, 2, none⟩ (.int .i64 x.f1)).cell? ⟨wr.heap.size, 3, none⟩ = some (.int .i64 x.f2) := blk_cell kb2 3
          clear m0 kb kb2 hP
          go_wp2_with (go_at_call 33; refine hP2.mono ?_; rintro e w9 ⟨rfl, hR9, hG9⟩)
          go_roundg (L.length - (i + 1))
          case measure => omega
          case rel => exact ⟨i + 1, by omega, Nat.le_refl _, by go_num, ⟨by rw [HTT.out]; exact hR9⟩, ⟨HGR.out.andThen (row' := some r) ((below_grown (below_set hbV (Nat.le_refl _)) (some r)).andThen (row' := some r) hG9 (fun j hj => .inr hj)) (fun j hj => .inr hj)⟩⟩
        · have t0 : (x.f2 == 0) = false := beq_eq_false_iff_ne.mpr m0
          have hP2 := hP V hbV
          rw [show heldAs o (toN x) = ⟨o, x.f0, 0, x.f2⟩ by unfold heldAs toN; dsimp only; rw [if_neg m0]] at hP2 HTT
          clear m0 kb hP
          go_wp2_with (go_at_call 33; refine hP2.mono ?_; rintro e w9 ⟨rfl, hR9, hG9⟩)
          go_roundg (L.length - (i + 1))
          case measure => omega
          case rel => exact ⟨i + 1, by omega, Nat.le_refl _, by go_num, ⟨by rw [HTT.out]; exact hR9⟩, ⟨HGR.out.andThen (row' := some r) ((below_grown hbV (some r)).andThen (row' := some r) hG9 (fun j hj => .inr hj)) (fun j hj => .inr hj)⟩⟩
      · have b2 : decide ((i : Int) < (L.length : Int)) = false := decide_eq_false (by omega)
        have hP9 := HRR.out
        rw [List.take_of_length_le (by omega), show L.map toN = ndL L from rfl, HX.out] at hP9
        go_wp2
        go_ret
        exact ⟨rfl, hP9, HGR.out⟩
  · have n0 : (mayOf R H o (ndL L) == 0) = false := beq_eq_false_iff_ne.mpr hz
    have HX := Aside0.mk (show H = M by rw [← HMM.out, takeOf, if_neg hz])
    generalize mayOf R H o (ndL L) = e0 at *
    go_enter Try.func17, Try.ntmps17
    go_wp2_with (go_at_call 32; refine hM.mono ?_; rintro e w1 ⟨rfl, B1⟩)
    go_ret
    exact ⟨rfl, by rw [← HX.out]; exact HR.out.below B1, below_grown B1 _⟩
set_option maxHeartbeats 16000000 in
theorem RGive.calls (r : Nat) (ok : Nat → Prop) (R : List Rs) (H : List Hd) (o : Int) (w : World) (h : RefAt w r ok R H) (hl : H.length ≤ 100000) (hok : ∀ k, w.heap.size ≤ k → ok k) (hokr : ¬ ok r) : Calls Try.prog 36 #[.pointer (some ⟨r, 0, none⟩), .int .i64 o] w fun e w' => e = .returned (.int .i64 ((H.length : Int) - ((giveOf H o).length : Int))) ∧ RefAt w' r ok R (giveOf H o) ∧ w.grownBy w' (some r) := by
  obtain ⟨M, hM⟩ : ∃ M, giveOf H o = M := ⟨_, rfl⟩
  rw [hM]
  have HM := Aside0.mk hM
  have HR := Aside0.mk h
  clear hM
  obtain ⟨A1, c1, A2, c2, r0, r1, hc1, hc2, _, hC⟩ := h.reads
  have hrl := h.lt
  have HC := Aside0.mk hC
  clear hC r0 h
  go_enter Try.func36, Try.ntmps36
  go_wp2
  go_loopg [5, 6] H.length (fun gg v5 v6 wr => ∃ (i : Nat) (F : List Hd), i ≤ H.length ∧ H.length - i ≤ gg ∧ v6 = .int .i64 i ∧ Aside0 (Below w.heap.size w wr) ∧ Aside0 (k55.R 55 wr w.heap.size (fun k => w.heap.size ≤ k) v5 F) ∧ Aside0 (giveOf (H.take i) o = F) ∧ F.length ≤ i)
  case atStart => exact ⟨0, [], Nat.zero_le _, by omega, rfl, ⟨Below.refl _ _⟩, ⟨Kd.R_nil _ _ _ _ _⟩, ⟨rfl⟩, by simp⟩
  case round =>
    obtain ⟨i, F, hi, hg, rfl, BW, RR, FF, hfl⟩ := hrel
    have q1 := (BW.out.cell (World.block_lt_of_cell? w _ r1)).trans r1
    by_cases hlt : i < H.length
    · have hltz : (i : Int) < (H.length : Int) := by omega
      have hz : (0 : Int) ≤ (i : Int) := by omega
      obtain ⟨ad, e, x0, x1, x2, x3⟩ := at_T55 HC.out (i : Int) hz hltz
      cases e
      have hblk := World.block_lt_of_cell? w _ x0
      rw [rdhd_at H i hlt, Int.toNat_natCast] at x0 x1 x2 x3
      rw [Int.toNat_natCast] at hblk
      have ht := List.take_succ_eq_append_getElem hlt
      obtain ⟨y, hy⟩ : ∃ y, H[i] = y := ⟨_, rfl⟩
      rw [hy] at x0 x1 x2 x3 ht
      have HT := Aside0.mk ht
      replace x0 := (BW.out.cell (p := ad.add (i * 4)) hblk).trans x0
      replace x1 := (BW.out.cell (p := ⟨(ad.add (i * 4)).block, (ad.add (i * 4)).off + 1, none⟩) hblk).trans x1
      replace x2 := (BW.out.cell (p := ⟨(ad.add (i * 4)).block, (ad.add (i * 4)).off + 2, none⟩) hblk).trans x2
      replace x3 := (BW.out.cell (p := ⟨(ad.add (i * 4)).block, (ad.add (i * 4)).off + 3, none⟩) hblk).trans x3
      clear hy ht
      by_cases hq : y.f0 = o
      · have t1 : (y.f0 != o) = false := by rw [hq]; exact bne_self_eq_false _
        have HQ := Aside0.mk hq
        clear hq
        go_wp2
        go_roundg (H.length - (i + 1))
        case measure => omega
        case rel => exact ⟨i + 1, F, by omega, Nat.le_refl _, by go_num, BW, RR, ⟨by rw [HT.out]; unfold giveOf; rw [List.filter_append, show [y].filter (fun h => !decide (h.f0 = o)) = [] by simp [HQ.out], List.append_nil]; exact FF.out⟩, by omega⟩
      · have t1 : (y.f0 != o) = true := bne_iff_ne.mpr hq
        have HQ := Aside0.mk hq
        have hwz : w.heap.size ≤ wr.heap.size := BW.out.size
        clear hq
        go_wp2_with ((with_reducible refine gate_builtin (b := .append) (xs := #[.tmp 27, .tmp 35]) rfl ?_); at_builtin; refine Kd.R_append k55 (w0 := w) w.heap.size rfl (.tmp 27) (.tmp 35) 48 55 (.agg #[.int .i64 0, .string ⟨#[]⟩, .int .i64 0, .int .i64 0]) 40 rfl Try.underlying48 infoQ rfl (by decide) (by omega) u5 F y [.int .i64 y.f0, .string y.f1, .int .i64 y.f2, .int .i64 y.f3] (fun k => w.heap.size ≤ k) (fun _ => False) rfl rfl (k55_mkM _ _ _ y) (fun _ hk => hk.elim) ?aF ?aO ?aB ?aS ?aL ?_; (case aF => exact (fun k hk => by omega)); (case aO => exact RR.out); (case aB => exact BW.out); (case aS => omega); (case aL => omega); intro v2 w2 ho hb hg hat; have HO2 := Aside0.mk ho; have HB2 := Aside0.mk hb; clear ho hb hg hat)
        go_roundg (H.length - (i + 1))
        case measure => omega
        case rel => exact ⟨i + 1, F ++ [y], by omega, Nat.le_refl _, by go_num, HB2, HO2, ⟨by rw [HT.out]; unfold giveOf; rw [List.filter_append, show [y].filter (fun h => !decide (h.f0 = o)) = [y] by simp [HQ.out]]; exact congrArg (· ++ [y]) FF.out⟩, by simp; omega⟩
    · have hltz : ¬ (i : Int) < (H.length : Int) := by omega
      have FEQ := Aside0.mk (show F = M by rw [← HM.out, ← FF.out, List.take_of_length_le (by omega)])
      obtain ⟨B1, d1, B2, d2, hblk, hRR, _⟩ := HR.out.own
      have HRR := Aside0.mk (Kd.R_below hRR BW.out)
      have hne : ∀ k, ok k → k ≠ r := fun k hk e => hokr (e ▸ hk)
      obtain ⟨A3, c3, rfl, hc3, _⟩ := Kd.R_reads RR.out
      have hkb := blk_below hblk BW.out
      have HKB := Aside0.mk hkb
      have hf := blk_frozen hkb 1
      clear hkb hblk hRR FF
      go_wp2
      go_ret
      refine ⟨by rw [← FEQ.out]; rfl, ?_, ?_⟩
      · rw [← FEQ.out]
        exact ⟨B1, d1, A3, c3, blk_set HKB.out 1 _, Kd.R_far HRR.out (p := ⟨r, 1, none⟩) (fun k hk => hne k hk) _, Kd.R_mono (Kd.R_lower (Kd.R_far RR.out (p := ⟨r, 1, none⟩) (fun k hk => by show k ≠ r; omega) _) (Nat.zero_le _)) hok⟩
      · exact ⟨(BW.out).os, (BW.out).tape, (BW.out).output, by have := (BW.out).size; simpa [World.setCell] using this, fun k hk hne => (Below.heap_setCell wr ⟨r, 1, none⟩ _ k (by simpa using hne)).trans ((BW.out).block k hk)⟩
end Go.Proofs.Ytgepalpcaphbeaa.QPoolPlays
