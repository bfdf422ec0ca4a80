/- The reference's store of conditions: one more. No conditions beyond those that each theorem names. -/
import Derived.Test.YthneeibphelofaaQCondPlaysCondRef
namespace Go.Proofs.Ythneeibphelofaa.QCondPlays
open Go.RowKit Go.Proofs.Ythneeibphelofaa.PCondPlays Go.Proofs.YthneeibphelofaaW.PrintWords Go.Proofs.YthneeibphelofaaW.PrintLast Go.Proofs.YthneeibphelofaaW.PrintMore
set_option linter.unusedVariables false
set_option linter.unusedSimpArgs false
theorem ins_in (c y : C) : ∀ P : List C, (∃ x ∈ P, ltC c x = true) → ins c (P ++ [y]) = ins c P ++ [y]
  | [], h => by obtain ⟨x, hx, _⟩ := h; cases hx
  | x :: P, h => by
    rw [List.cons_append, ins, ins]
    by_cases z : ltC c x = true
    · rw [if_pos z, if_pos z]; rfl
    · rw [if_neg z, if_neg z, ins_in c y P ?_]; rfl
      obtain ⟨u, hu, hl⟩ := h
      rcases List.mem_cons.mp hu with e | e
      · rw [e] at hl; exact absurd hl z
      · exact ⟨u, e, hl⟩
theorem ins_out (c : C) (Q : List C) : ∀ P : List C, (∀ x ∈ P, ltC c x = false) → ins c (P ++ Q) = P ++ ins c Q
  | [], _ => rfl
  | x :: P, h => by
    rw [List.cons_append, ins, if_neg (by rw [h x (by simp)]; decide), ins_out c Q P (fun y hy => h y (by simp [hy]))]; rfl
theorem ahead_is (a b : C) (W : World) : Calls Try.prog 45 #[.agg #[.string a.f0, .int .i64 a.f1], .agg #[.string b.f0, .int .i64 b.f1]] W fun e w' => e = .returned (.bool (ltC a b)) ∧ Below W.heap.size W w' := by
  refine dayshiftref11_ahead.calls a.f0 a.f1 b.f0 b.f1 _ W ?_
  unfold dayshiftref11_ahead.f ltC
  by_cases h : Op.bytesLess a.f0.toList b.f0.toList = true
  · rw [if_pos h, h]; rfl
  · rw [if_neg h]
    have h' : Op.bytesLess a.f0.toList b.f0.toList = false := by simpa using h
    by_cases e : a.f0.toList = b.f0.toList
    · rw [if_pos e, h', decide_eq_true e]; simp
    · rw [if_neg e, h', decide_eq_false e]; rfl
instance (c : C) : Decidable (goodC c) := by unfold goodC; infer_instance
theorem rright_is (c : C) (W : World) : Calls Try.prog 44 #[.agg #[.string c.f0, .int .i64 c.f1]] W fun e w' => e = .returned (.bool (decide (goodC c))) ∧ Below W.heap.size W w' := by
  refine dayshiftref11_right.calls c.f0 c.f1 _ W ?_
  have hg : goodC c ↔ (1 ≤ (c.f0.size : Int) ∧ (c.f0.size : Int) ≤ 20 ∧ 1 ≤ c.f1 ∧ c.f1 ≤ 3652059) := by unfold goodC; omega
  unfold dayshiftref11_right.f dayshiftref01_Right.f
  by_cases h1 : (c.f0.size : Int) ≥ 1
  · rw [if_pos h1]
    by_cases h2 : (c.f0.size : Int) ≤ 20
    · rw [if_pos h2]
      by_cases h3 : c.f1 ≥ 1
      · rw [if_pos h3, Option.bind_some]
        congr 1
        rw [decide_eq_decide, hg]
        omega
      · rw [if_neg h3, Option.bind_some, decide_eq_false (fun z => h3 (hg.mp z).2.2.1)]
    · rw [if_neg h2, decide_eq_false (fun z => h2 (hg.mp z).2.1)]
  · rw [if_neg h1, decide_eq_false (fun z => h1 (hg.mp z).1)]
set_option maxHeartbeats 8000000 in
set_option maxRecDepth 100000 in
theorem RAdd.calls (r : Nat) (ok : Nat → Prop) (L : List C) (c : C) (w : World) (h : RefAt w r ok L) (hl : L.length ≤ 1000) (hs : Sorted L) (ht : Tame L) (hok : ∀ k, w.heap.size ≤ k → ok k) (hokr : ¬ ok r) : Calls Try.prog 34 #[.pointer (some ⟨r, 0, none⟩), .agg #[.string c.f0, .int .i64 c.f1]] w fun e w' => e = .returned (.int .i64 (addE L c)) ∧ RefAt w' r ok (addR L c) ∧ w.grownBy w' (some r) := by
  obtain ⟨ee, hee⟩ : ∃ ee, addE L c = ee := ⟨_, rfl⟩
  obtain ⟨MM, hMM⟩ : ∃ MM, addR L c = MM := ⟨_, rfl⟩
  rw [hee, hMM]
  have HEE := Aside0.mk hee
  have HMM := Aside0.mk hMM
  clear hee hMM
  go_enter Try.func34, Try.ntmps34
  go_upto_region 1 with (fail)
  obtain ⟨W0, hW⟩ : ∃ W, W = w.alloc (.cells #[.string c.f0, .int .i64 c.f1] 29 (0, 0)) := ⟨_, rfl⟩
  have HW0 := Aside0.mk (show Below w.heap.size w W0 by rw [hW]; exact below_alloc (Below.refl _ _) _)
  have kb : W0.heap[w.heap.size]? = some (.cells #[.string c.f0, .int .i64 c.f1] 29 (0, 0)) := by rw [hW]; exact blk_new _ _
  rw [← hW]
  clear hW
  have k0 : W0.cell? ⟨w.heap.size, 0, none⟩ = some (.string c.f0) := blk_cell kb 0
  have k1 : W0.cell? ⟨w.heap.size, 1, none⟩ = some (.int .i64 c.f1) := blk_cell kb 1
  have HR0 := Aside0.mk (h.below HW0.out)
  have HKB := Aside0.mk kb
  clear h kb
  have hrt := rright_is c W0
  by_cases good : goodC c
  rotate_left
  · rw [decide_eq_false good] at hrt
    have e1 : addE L c = 1 := by unfold addE; rw [if_pos (Classical.not_not.mp good)]
    go_wp2_with (go_at_call 44; refine hrt.mono ?_; rintro e W ⟨rfl, bW⟩)
    go_ret
    exact ⟨by rw [← HEE.out, e1]; rfl, by rw [← HMM.out, addR, if_neg (by rw [e1]; decide)]; exact HR0.out.below bW, below_grown (below_go HW0.out HW0.out.size bW) _⟩
  rw [decide_eq_true good] at hrt
  go_upto_region 3 with (go_at_call 44; refine hrt.mono ?_; rintro e W1 ⟨rfl, bW1⟩)
  have hk1 := blk_below HKB.out bW1
  have q0 : W1.cell? ⟨w.heap.size, 0, none⟩ = some (.string c.f0) := blk_cell hk1 0
  have q1 : W1.cell? ⟨w.heap.size, 1, none⟩ = some (.int .i64 c.f1) := blk_cell hk1 1
  have HW1 := Aside0.mk (below_go HW0.out HW0.out.size bW1)
  have HR1 := Aside0.mk (HR0.out.below bW1)
  have HK1 := Aside0.mk hk1
  have hH := RHas.calls r ok L c W1 HR1.out hl
  clear k0 k1 hrt bW1 hk1 HR0 HKB
  by_cases hm : c ∈ L
  · rw [decide_eq_true hm] at hH
    have e1 : addE L c = 0 := by unfold addE; rw [if_neg good, if_neg (fun z => z.1 hm)]
    go_wp2_with (go_at_call 21; refine hH.mono ?_; rintro e W ⟨rfl, bW⟩)
    go_ret
    exact ⟨by rw [← HEE.out, e1]; rfl, by rw [← HMM.out, addR, if_pos e1, addL, if_pos hm]; exact HR1.out.below bW, below_grown (below_go HW1.out HW1.out.size bW) _⟩
  rw [decide_eq_false hm] at hH
  go_upto_region 5 with (go_at_call 21; refine hH.mono ?_; rintro e W ⟨rfl, bW⟩)
  have HW := Aside0.mk (below_go HW1.out HW1.out.size bW)
  have HR := Aside0.mk (HR1.out.below bW)
  have HK := Aside0.mk (blk_below HK1.out bW)
  obtain ⟨A, cp, r0, hcp, hC⟩ := HR.out.reads
  have hrl := HR.out.lt
  have HC := Aside0.mk hC
  have hokW : ∀ k, W.heap.size ≤ k → ok k := fun k hk => hok k (Nat.le_trans HW.out.size hk)
  clear hC q0 q1 hH bW HR1 HK1 hok
  by_cases full : 128 ≤ L.length
  · have e1 : addE L c = 4 := by unfold addE; rw [if_neg good, if_pos ⟨hm, full⟩]
    have b1 : decide ((128 : Int) ≤ (L.length : Int)) = true := decide_eq_true (by omega)
    go_wp2
    go_ret
    exact ⟨by rw [← HEE.out, e1]; rfl, by rw [← HMM.out, addR, if_neg (by rw [e1]; decide)]; exact HR.out, below_grown HW.out _⟩
  have b1 : decide ((128 : Int) ≤ (L.length : Int)) = false := decide_eq_false (by omega)
  have HE1 := Aside0.mk (show addE L c = 0 by unfold addE; rw [if_neg good, if_neg (fun z => full z.2)])
  go_wp2
  go_loopg [5, 6, 7] L.length (fun gg s5 s6 s7 wr => ∃ (kk : Nat) (F : List C) (inn : Bool), kk ≤ L.length ∧ L.length - kk ≤ gg ∧ s7 = .int .i64 kk ∧ s6 = .bool inn ∧ Aside0 (Below W.heap.size W wr) ∧ Aside0 (k29.R 29 wr W.heap.size (fun k => W.heap.size ≤ k) s5 F) ∧ Aside0 ((inn = true → F = ins c (L.take kk) ∧ ∃ x ∈ L.take kk, ltC c x = true) ∧ (inn = false → F = L.take kk ∧ ∀ x ∈ L.take kk, ltC c x = false)) ∧ F.length ≤ kk + 1)
  case atStart => exact ⟨0, [], false, Nat.zero_le _, by omega, rfl, rfl, ⟨Below.refl _ _⟩, ⟨Kd.R_nil _ _ _ _ _⟩, ⟨(fun z => by cases z), fun _ => ⟨rfl, fun x hx => by simp at hx⟩⟩, by simp⟩
  case round =>
    obtain ⟨kk, F, inn, hkk, hg, rfl, rfl, BW, RR, FF, hfl⟩ := hrel
    have q0 := (BW.out.cell (World.block_lt_of_cell? W _ r0)).trans r0
    have hkw := blk_below HK.out BW.out
    have q1 : wr.cell? ⟨w.heap.size, 0, none⟩ = some (.string c.f0) := blk_cell hkw 0
    have q2 : wr.cell? ⟨w.heap.size, 1, none⟩ = some (.int .i64 c.f1) := blk_cell hkw 1
    have HKW := Aside0.mk hkw
    clear hkw
    by_cases hlt : kk < L.length
    · have hltz : (kk : Int) < (L.length : Int) := by omega
      have hz : (0 : Int) ≤ (kk : Int) := by omega
      obtain ⟨ad, e, x0, x1⟩ := at_T29 HC.out (kk : Int) hz hltz
      cases e
      have hblk := World.block_lt_of_cell? W _ x0
      rw [rd_at L kk hlt, Int.toNat_natCast] at x0 x1
      rw [Int.toNat_natCast] at hblk
      have ht := List.take_succ_eq_append_getElem hlt
      obtain ⟨y, hy⟩ : ∃ y, L[kk] = y := ⟨_, rfl⟩
      rw [hy] at x0 x1 ht
      have HT := Aside0.mk ht
      have HS : Aside0 (∀ V : World, Below W.heap.size W V → V.cell? ⟨r, 0, none⟩ = some (.slice (some ad) L.length cp) ∧ V.cell? ⟨w.heap.size, 0, none⟩ = some (.string c.f0) ∧ V.cell? ⟨w.heap.size, 1, none⟩ = some (.int .i64 c.f1) ∧ V.cell? (ad.add (kk * 2)) = some (.string y.f0) ∧ V.cell? ⟨(ad.add (kk * 2)).block, (ad.add (kk * 2)).off + 1, none⟩ = some (.int .i64 y.f1)) := ⟨fun V hV => ⟨(hV.cell (World.block_lt_of_cell? W _ r0)).trans r0, blk_cell (blk_below HK.out hV) 0, blk_cell (blk_below HK.out hV) 1, (hV.cell hblk).trans x0, (hV.cell (p := ⟨(ad.add (kk * 2)).block, (ad.add (kk * 2)).off + 1, none⟩) hblk).trans x1⟩⟩
      clear hy ht x0 x1 q0 q1 q2
      obtain ⟨q0, q1, q2, x0, x1⟩ := HS.out wr BW.out
      have hbw := BW.out
      cases inn with
      | true =>
        go_upto_region 12 with (fail)
        go_quiet (fail)
        obtain ⟨V, hV⟩ : ∃ V, V = wr.drewN nq := ⟨_, rfl⟩
        have hd : Below wr.heap.size wr V := by rw [hV]; exact Drawn0.below (Drawn0.mk ⟨nq, rfl⟩)
        rw [← hV]
        clear hV q0 q1 q2 x0 x1
        have HBV := Aside0.mk (BW.out.trans (hd.mono BW.out.size))
        have HRV := Aside0.mk (Kd.R_below RR.out hd)
        have hwz : W.heap.size ≤ V.heap.size := HBV.out.size
        obtain ⟨q0, q1, q2, x0, x1⟩ := HS.out V HBV.out
        clear hd
        go_wp2_with ((with_reducible refine gate_builtin (b := .append) (xs := #[.tmp 46, .tmp 54]) rfl ?_); at_builtin; refine Kd.R_append k29 (w0 := W) W.heap.size rfl (.tmp 46) (.tmp 54) 22 29 (.agg #[.string ⟨#[]⟩, .int .i64 0]) 24 rfl Try.underlying22 infoC rfl (by decide) (by omega) u5 F y [.string y.f0, .int .i64 y.f1] (fun k => W.heap.size ≤ k) (fun _ => False) rfl rfl (k29_mkM _ _ _ y) (fun _ hk => hk.elim) ?aF ?aO ?aB ?aS ?aL ?_; (case aF => exact (fun k hk => by omega)); (case aO => exact HRV.out); (case aB => exact HBV.out); (case aS => omega); (case aL => omega); intro v2 w2 ho hb hg hat; have HO2 := Aside0.mk ho; have HB2 := Aside0.mk hb; clear ho hb hg hat)
        go_roundg (L.length - (kk + 1))
        case measure => omega
        case rel =>
          obtain ⟨f1, f2⟩ := FF.out.1 (by first | rfl | trivial)
          exact ⟨kk + 1, F ++ [y], true, by omega, by omega, by go_num, rfl, HB2, HO2, ⟨fun _ => ⟨by rw [HT.out, ins_in c y _ f2, f1], by obtain ⟨x, hx, hx2⟩ := f2; exact ⟨x, by rw [HT.out]; simp [hx], hx2⟩⟩, fun z => by cases z⟩, by simp; omega⟩
      | false =>
        have hah := fun (V : World) => ahead_is c y V
        obtain ⟨f1, f2⟩ := FF.out.2 (by first | rfl | trivial)
        have F1 := Aside0.mk f1
        have F2 := Aside0.mk f2
        have hF : F.length ≤ kk := by rw [f1, List.length_take]; omega
        clear f1 f2
        cases hlt2 : ltC c y
        all_goals
          rw [hlt2] at hah
          have HLT := Aside0.mk hlt2
          clear hlt2
          go_upto_region 12 with (fail)
          go_region_held3 (fun V => V.cell? ⟨r, 0, none⟩ = some (.slice (some ad) L.length cp) ∧ V.cell? ⟨w.heap.size, 0, none⟩ = some (.string c.f0) ∧ V.cell? ⟨w.heap.size, 1, none⟩ = some (.int .i64 c.f1) ∧ V.cell? (ad.add (kk * 2)) = some (.string y.f0) ∧ V.cell? ⟨(ad.add (kk * 2)).block, (ad.add (kk * 2)).off + 1, none⟩ = some (.int .i64 y.f1)) (first | exact HS.out _ hbw | exact HS.out _ (below_drew1 hbw) | exact HS.out _ hv | exact HS.out _ (below_drew1 hv)) (first | (go_at_call 45; refine (hah _).mono ?_; rintro e V ⟨rfl, bV⟩; have hv : Below W.heap.size W V := (by first | exact below_go hbw hbw.size bV | exact below_go (below_drew1 hbw) (below_drew1 hbw).size bV); have hrv := (by first | exact Kd.R_below RR.out bV | exact Kd.R_below (Kd.R_drew RR.out) bV : k29.R 29 V W.heap.size (fun k => W.heap.size ≤ k) u5 F); clear bV))
        · have HBV := Aside0.mk (by first | exact hv | exact below_drew1 hv : Below W.heap.size W V)
          have HRV := Aside0.mk hrv
          have hwz : W.heap.size ≤ V.heap.size := HBV.out.size
          clear q0 q1 q2 x0 x1
          obtain ⟨q0, q1, q2, x0, x1⟩ := HS.out V HBV.out
          clear hrv hv hbw
          go_wp2_with ((with_reducible refine gate_builtin (b := .append) (xs := #[.tmp 46, .tmp 54]) rfl ?_); at_builtin; refine Kd.R_append k29 (w0 := W) W.heap.size rfl (.tmp 46) (.tmp 54) 22 29 (.agg #[.string ⟨#[]⟩, .int .i64 0]) 24 rfl Try.underlying22 infoC rfl (by decide) (by omega) u5 F y [.string y.f0, .int .i64 y.f1] (fun k => W.heap.size ≤ k) (fun _ => False) rfl rfl (k29_mkM _ _ _ y) (fun _ hk => hk.elim) ?aF ?aO ?aB ?aS ?aL ?_; (case aF => exact (fun k hk => by omega)); (case aO => exact HRV.out); (case aB => exact HBV.out); (case aS => omega); (case aL => omega); intro v2 w2 ho hb hg hat; have HO2 := Aside0.mk ho; have HB2 := Aside0.mk hb; clear ho hb hg hat)
          go_roundg (L.length - (kk + 1))
          case measure => omega
          case rel => exact ⟨kk + 1, F ++ [y], false, by omega, by omega, by go_num, rfl, HB2, HO2, ⟨(fun z => by cases z), fun _ => ⟨by rw [HT.out, F1.out], fun x hx => by
            rw [HT.out, List.mem_append, List.mem_singleton] at hx
            rcases hx with e | e
            · exact F2.out x e
            · rw [e]; exact HLT.out⟩⟩, by simp; omega⟩
        · have HBV := Aside0.mk (by first | exact hv | exact below_drew1 hv : Below W.heap.size W V)
          have HRV := Aside0.mk hrv
          have hwz : W.heap.size ≤ V.heap.size := HBV.out.size
          clear q0 q1 q2 x0 x1
          obtain ⟨q0, q1, q2, x0, x1⟩ := HS.out V HBV.out
          clear hrv hv hbw
          go_upto_region 14 with ((with_reducible refine gate_builtin (b := .append) (xs := #[.tmp 42, .tmp 44]) rfl ?_); at_builtin; refine Kd.R_append k29 (w0 := W) W.heap.size rfl (.tmp 42) (.tmp 44) 22 29 (.agg #[.string ⟨#[]⟩, .int .i64 0]) 24 rfl Try.underlying22 infoC rfl (by decide) (by omega) u5 F c [.string c.f0, .int .i64 c.f1] (fun k => W.heap.size ≤ k) (fun _ => False) rfl rfl (k29_mkM _ _ _ c) (fun _ hk => hk.elim) ?aF ?aO ?aB ?aS ?aL ?_; (case aF => exact (fun k hk => by omega)); (case aO => exact HRV.out); (case aB => exact HBV.out); (case aS => omega); (case aL => omega); intro v2 w2 ho hb hg hat; have HO2 := Aside0.mk ho; have HB2 := Aside0.mk hb; clear ho hb hg hat)
          clear q0 q1 q2 x0 x1
          obtain ⟨q0, q1, q2, x0, x1⟩ := HS.out w2 HB2.out
          have hwz2 : W.heap.size ≤ w2.heap.size := HB2.out.size
          have hfl2 : (F ++ [c]).length ≤ kk + 1 := by simp; omega
          go_wp2_with ((with_reducible refine gate_builtin (b := .append) (xs := #[.tmp 46, .tmp 54]) rfl ?_); at_builtin; refine Kd.R_append k29 (w0 := W) W.heap.size rfl (.tmp 46) (.tmp 54) 22 29 (.agg #[.string ⟨#[]⟩, .int .i64 0]) 24 rfl Try.underlying22 infoC rfl (by decide) (by omega) v2 (F ++ [c]) y [.string y.f0, .int .i64 y.f1] (fun k => W.heap.size ≤ k) (fun _ => False) rfl rfl (k29_mkM _ _ _ y) (fun _ hk => hk.elim) ?aF ?aO ?aB ?aS ?aL ?_; (case aF => exact (fun k hk => by omega)); (case aO => exact HO2.out); (case aB => exact HB2.out); (case aS => omega); (case aL => omega); intro v3 w3 ho hb hg hat; have HO3 := Aside0.mk ho; have HB3 := Aside0.mk hb; clear ho hb hg hat)
          go_roundg (L.length - (kk + 1))
          case measure => omega
          case rel => exact ⟨kk + 1, F ++ [c] ++ [y], true, by omega, by omega, by go_num, rfl, HB3, HO3, ⟨fun _ => ⟨by rw [HT.out, ins_out c [y] _ F2.out, ins, if_pos HLT.out, F1.out]; simp, ⟨y, by rw [HT.out]; simp, HLT.out⟩⟩, (fun z => by cases z)⟩, by simp; omega⟩
    · have hltz : ¬ (kk : Int) < (L.length : Int) := by omega
      have ek : L.take kk = L := List.take_of_length_le (by omega)
      obtain ⟨A0, cp0, hblk, hRo⟩ := HR.out.own
      have HRB := Aside0.mk hblk
      clear hblk hRo
      cases inn with
      | true =>
        have FEQ := Aside0.mk (show ins c L = F by rw [← ek]; exact ((FF.out.1 (by first | rfl | trivial)).1).symm)
        clear FF ek
        obtain ⟨A2, c2, rfl, hc2, _⟩ := Kd.R_reads RR.out
        have hkb := blk_below HRB.out BW.out
        have HKB := Aside0.mk hkb
        have hf := blk_frozen hkb 0
        clear hkb
        go_wp2
        go_ret
        refine ⟨by rw [← HEE.out, HE1.out]; rfl, ?_, ?_⟩
        · have e : MM = F := by rw [← HMM.out, addR, if_pos HE1.out, addL, if_neg hm, FEQ.out]
          rw [e]
          exact ⟨A2, c2, blk_set HKB.out 0 _, Kd.R_mono (Kd.R_lower (Kd.R_far RR.out (p := ⟨r, 0, none⟩) (fun k hk => by show k ≠ r; omega) _) (Nat.zero_le _)) hokW⟩
        · exact (below_grown HW.out (some r)).andThen (row' := some r) ⟨(BW.out).os, (BW.out).tape, (BW.out).output, by have := (BW.out).size; simpa [World.setCell] using this, fun k hk hne => (Below.heap_setCell wr ⟨r, 0, none⟩ _ k (by simpa using hne)).trans ((BW.out).block k hk)⟩ (fun j hj => .inr hj)
      | false =>
        obtain ⟨f1, f2⟩ := FF.out.2 (by first | rfl | trivial)
        have hF : F.length ≤ kk := by rw [f1, List.length_take]; omega
        have FEQ := Aside0.mk (show ins c L = F ++ [c] by rw [f1, ek]; rw [ek] at f2; have := ins_out c [] L f2; rw [List.append_nil] at this; rw [this]; rfl)
        have hwz : W.heap.size ≤ wr.heap.size := BW.out.size
        clear FF ek f1 f2
        go_upto_region 18 with ((with_reducible refine gate_builtin (b := .append) (xs := #[.tmp 58, .tmp 60]) rfl ?_); at_builtin; refine Kd.R_append k29 (w0 := W) W.heap.size rfl (.tmp 58) (.tmp 60) 22 29 (.agg #[.string ⟨#[]⟩, .int .i64 0]) 24 rfl Try.underlying22 infoC rfl (by decide) (by omega) u5 F c [.string c.f0, .int .i64 c.f1] (fun k => W.heap.size ≤ k) (fun _ => False) rfl rfl (k29_mkM _ _ _ c) (fun _ hk => hk.elim) ?aF ?aO ?aB ?aS ?aL ?_; (case aF => exact (fun k hk => by omega)); (case aO => exact RR.out); (case aB => exact BW.out); (case aS => omega); (case aL => omega); intro v2 w2 ho hb hg hat; have HO2 := Aside0.mk ho; have HB2 := Aside0.mk hb; clear ho hb hg hat)
        have q3 := (HB2.out.cell (World.block_lt_of_cell? W _ r0)).trans r0
        clear q0 q1 q2
        obtain ⟨A2, c2, rfl, hc2, _⟩ := Kd.R_reads HO2.out
        have hkb := blk_below HRB.out HB2.out
        have HKB := Aside0.mk hkb
        have hf := blk_frozen hkb 0
        clear hkb
        go_wp2
        go_ret
        refine ⟨by rw [← HEE.out, HE1.out]; rfl, ?_, ?_⟩
        · have e : MM = (F ++ [c]) := by rw [← HMM.out, addR, if_pos HE1.out, addL, if_neg hm, FEQ.out]
          rw [e]
          refine ⟨A2, c2, by rw [show (F ++ [c]).length = F.length + 1 by simp]; exact blk_set HKB.out 0 _, ?_⟩
          have hz := fun (u : Value) => Kd.R_mono (Kd.R_lower (Kd.R_far HO2.out (p := ⟨r, 0, none⟩) (fun k hk => by show k ≠ r; omega) u) (Nat.zero_le _)) hokW
          exact hz _
        · exact (below_grown HW.out (some r)).andThen (row' := some r) ⟨(HB2.out).os, (HB2.out).tape, (HB2.out).output, by have := (HB2.out).size; simpa [World.setCell] using this, fun k hk hne => (Below.heap_setCell w2 ⟨r, 0, none⟩ _ k (by simpa using hne)).trans ((HB2.out).block k hk)⟩ (fun j hj => .inr hj)
end Go.Proofs.Ythneeibphelofaa.QCondPlays
