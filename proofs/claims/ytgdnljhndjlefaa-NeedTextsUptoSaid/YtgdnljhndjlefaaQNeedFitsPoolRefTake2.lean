/- The reference's pool: a thing more that is held; all or nothing; all that an owner holds. No conditions beyond those that each theorem names. -/
import Derived.Test.YtgdnljhndjlefaaQNeedFitsPoolRefMay
namespace Go.Proofs.Ytgdnljhndjlefaa.QNeedFits
open Go.RowKit Go.Proofs.Ytgdnljhndjlefaa.PNeedFits Go.Proofs.YtgdnljhndjlefaaW.PrintWords Go.Proofs.YtgdnljhndjlefaaW.PrintLast Go.Proofs.YtgdnljhndjlefaaW.PrintMore Go.Proofs.Ytgdnljhndjlefaa.MMaps
set_option linter.unusedVariables false
set_option linter.unusedSimpArgs false
set_option maxRecDepth 100000
theorem infoQ : (Try.prog.info? 56).map (fun i => (i.zero, i.size, i.bytes)) = some (some (.agg #[.int .i64 0, .string ⟨#[]⟩, .int .i64 0, .int .i64 0]), 4, 40) := by kernel_rfl
theorem put_in (c y : Hd) : ∀ P : List Hd, (∃ x ∈ P, ltH c x = true) → putH c (P ++ [y]) = putH c P ++ [y]
  | [], h => by obtain ⟨x, hx, _⟩ := h; cases hx
  | x :: P, h => by
    rw [List.cons_append, putH, putH]
    by_cases z : ltH c x = true
    · rw [if_pos z, if_pos z]; rfl
    · rw [if_neg z, if_neg z, put_in c y P ?_]; rfl
      obtain ⟨u, hu, hl⟩ := h
      rcases List.mem_cons.mp hu with e | e
      · rw [e] at hl; exact absurd hl z
      · exact ⟨u, e, hl⟩
theorem put_out (c : Hd) (Q : List Hd) : ∀ P : List Hd, (∀ x ∈ P, ltH c x = false) → putH c (P ++ Q) = P ++ putH c Q
  | [], _ => rfl
  | x :: P, h => by
    rw [List.cons_append, putH, if_neg (by rw [h x (by simp)]; decide), put_out c Q P (fun y hy => h y (by simp [hy]))]; rfl
set_option maxHeartbeats 16000000 in
theorem put.calls (r : Nat) (ok : Nat → Prop) (R : List Rs) (H : List Hd) (h : Hd) (w : World) (hRef : RefAt w r ok R H) (hl : H.length ≤ 100000) (hok : ∀ k, w.heap.size ≤ k → ok k) (hokr : ¬ ok r) : Calls Try.prog 32 #[.pointer (some ⟨r, 0, none⟩), .agg #[.int .i64 h.f0, .string h.f1, .int .i64 h.f2, .int .i64 h.f3]] w fun e w' => e = .returned (.tuple #[]) ∧ RefAt w' r ok R (putH h H) ∧ w.grownBy w' (some r) := by
  obtain ⟨MM, hMM⟩ : ∃ MM, putH h H = MM := ⟨_, rfl⟩
  rw [hMM]
  have HMM := Aside0.mk hMM
  clear hMM
  go_enter Try.func32, Try.ntmps32
  go_upto_region 1 with (fail)
  obtain ⟨W, hW⟩ : ∃ W, W = w.alloc (.cells #[.int .i64 h.f0, .string h.f1, .int .i64 h.f2, .int .i64 h.f3] 56 (0, 0)) := ⟨_, rfl⟩
  have HW := Aside0.mk (show Below w.heap.size w W by rw [hW]; exact below_alloc (Below.refl _ _) _)
  have kb : W.heap[w.heap.size]? = some (.cells #[.int .i64 h.f0, .string h.f1, .int .i64 h.f2, .int .i64 h.f3] 56 (0, 0)) := by rw [hW]; exact blk_new _ _
  rw [← hW]
  clear hW
  have HR := Aside0.mk (hRef.below HW.out)
  have HK := Aside0.mk kb
  have hokW : ∀ k, W.heap.size ≤ k → ok k := fun k hk => hok k (Nat.le_trans HW.out.size hk)
  clear hRef kb hok
  obtain ⟨A1, c1, A2, c2, r0, r1, hc1, hc2, _, hC⟩ := HR.out.reads
  have hrl := HR.out.lt
  have HC := Aside0.mk hC
  clear hC r0
  go_wp2
  go_loopg [4, 5, 6] H.length (fun gg s4 s5 s6 wr => ∃ (kk : Nat) (F : List Hd) (inn : Bool), kk ≤ H.length ∧ H.length - kk ≤ gg ∧ s6 = .int .i64 kk ∧ s5 = .bool inn ∧ Aside0 (Below W.heap.size W wr) ∧ Aside0 (k56.R 56 wr W.heap.size (fun k => W.heap.size ≤ k) s4 F) ∧ Aside0 ((inn = true → F = putH h (H.take kk) ∧ ∃ x ∈ H.take kk, ltH h x = true) ∧ (inn = false → F = H.take kk ∧ ∀ x ∈ H.take kk, ltH h x = false)) ∧ F.length ≤ kk + 1)
  case atStart => exact ⟨0, [], false, Nat.zero_le _, by omega, rfl, rfl, ⟨Below.refl _ _⟩, ⟨Kd.R_nil _ _ _ _ _⟩, ⟨(fun z => by cases z), fun _ => ⟨rfl, fun x hx => by simp at hx⟩⟩, by simp⟩
  case round =>
    obtain ⟨kk, F, inn, hkk, hg, rfl, rfl, BW, RR, FF, hfl⟩ := hrel
    by_cases hlt : kk < H.length
    · have hltz : (kk : Int) < (H.length : Int) := by omega
      have hz : (0 : Int) ≤ (kk : Int) := by omega
      obtain ⟨ad, e, x0, x1, x2, x3⟩ := at_T56 HC.out (kk : Int) hz hltz
      cases e
      have hblk := World.block_lt_of_cell? W _ x0
      rw [rdhd_at H kk hlt, Int.toNat_natCast] at x0 x1 x2 x3
      rw [Int.toNat_natCast] at hblk
      have ht := List.take_succ_eq_append_getElem hlt
      obtain ⟨y, hy⟩ : ∃ y, H[kk] = y := ⟨_, rfl⟩
      rw [hy] at x0 x1 x2 x3 ht
      have HT := Aside0.mk ht
      have q1 := (BW.out.cell (World.block_lt_of_cell? W _ r1)).trans r1
      replace x0 := (BW.out.cell (p := ad.add (kk * 4)) hblk).trans x0
      replace x1 := (BW.out.cell (p := ⟨(ad.add (kk * 4)).block, (ad.add (kk * 4)).off + 1, none⟩) hblk).trans x1
      replace x2 := (BW.out.cell (p := ⟨(ad.add (kk * 4)).block, (ad.add (kk * 4)).off + 2, none⟩) hblk).trans x2
      replace x3 := (BW.out.cell (p := ⟨(ad.add (kk * 4)).block, (ad.add (kk * 4)).off + 3, none⟩) hblk).trans x3
      clear hy ht
      go_upto_region 7 with (fail)
      obtain ⟨V, hV⟩ : ∃ V, V = wr.alloc (.cells #[.int .i64 y.f0, .string y.f1, .int .i64 y.f2, .int .i64 y.f3] 56 (0, 0)) := ⟨_, rfl⟩
      have hbV : Below wr.heap.size wr V := by rw [hV]; exact below_alloc (Below.refl _ _) _
      have kbV : V.heap[wr.heap.size]? = some (.cells #[.int .i64 y.f0, .string y.f1, .int .i64 y.f2, .int .i64 y.f3] 56 (0, 0)) := by rw [hV]; exact blk_new _ _
      rw [← hV]
      clear hV x0 x1 x2 x3 q1
      have HBV := Aside0.mk (below_go BW.out BW.out.size hbV)
      have HRV := Aside0.mk (Kd.R_below RR.out hbV)
      have hwz : W.heap.size ≤ V.heap.size := HBV.out.size
      have hgw : W.heap.size ≤ wr.heap.size := BW.out.size
      have RNE := Aside0.mk (show ∀ k, u4.ownBlock = some k → W.heap.size ≤ k ∧ k < wr.heap.size from fun k e => ⟨((Kd.R_bound RR.out).1 k e).1, ((Kd.R_bound RR.out).1 k e).2.2.1⟩)
      have HKV := Aside0.mk kbV
      have hwW := blk_lt HK.out
      have HS : Aside0 (∀ U : World, V.grownBy U u4.ownBlock → U.cell? ⟨w.heap.size, 0, none⟩ = some (.int .i64 h.f0) ∧ U.cell? ⟨w.heap.size, 1, none⟩ = some (.string h.f1) ∧ U.cell? ⟨w.heap.size, 2, none⟩ = some (.int .i64 h.f2) ∧ U.cell? ⟨w.heap.size, 3, none⟩ = some (.int .i64 h.f3) ∧ U.cell? ⟨wr.heap.size, 0, none⟩ = some (.int .i64 y.f0) ∧ U.cell? ⟨wr.heap.size, 1, none⟩ = some (.string y.f1) ∧ U.cell? ⟨wr.heap.size, 2, none⟩ = some (.int .i64 y.f2) ∧ U.cell? ⟨wr.heap.size, 3, none⟩ = some (.int .i64 y.f3)) := ⟨fun U hU => by
        have b1 := (hU.block w.heap.size (Nat.lt_of_lt_of_le hwW hwz) (fun e => by have := RNE.out _ e.symm; omega)).trans (blk_below HK.out HBV.out)
        have b2 := (hU.block wr.heap.size (blk_lt HKV.out) (fun e => by have := RNE.out _ e.symm; omega)).trans HKV.out
        exact ⟨blk_cell b1 0, blk_cell b1 1, blk_cell b1 2, blk_cell b1 3, blk_cell b2 0, blk_cell b2 1, blk_cell b2 2, blk_cell b2 3⟩⟩
      obtain ⟨q0, q1, q2, q3, x0, x1, x2, x3⟩ := HS.out V (below_grown (Below.refl _ _) _)
      clear kbV hbV
      cases inn with
      | true =>
        go_wp2_with ((with_reducible refine gate_builtin (b := .append) (xs := #[.tmp 51, .tmp 53]) rfl ?_); at_builtin; refine Kd.R_append k56 (w0 := W) W.heap.size rfl (.tmp 51) (.tmp 53) 54 56 (.agg #[.int .i64 0, .string ⟨#[]⟩, .int .i64 0, .int .i64 0]) 40 rfl Try.underlying54 infoQ rfl (by decide) (by omega) u4 F y [.int .i64 y.f0, .string y.f1, .int .i64 y.f2, .int .i64 y.f3] (fun k => W.heap.size ≤ k) (fun _ => False) rfl rfl (k56_mkM _ _ _ y) (fun _ hk => hk.elim) ?aF ?aO ?aB ?aS ?aL ?_; (case aF => exact (fun k hk => by omega)); (case aO => exact HRV.out); (case aB => exact HBV.out); (case aS => omega); (case aL => omega); intro v2 w2 ho hb hg hat; have HO_w2 := Aside0.mk ho; have HB_w2 := Aside0.mk hb; clear ho hb hg hat)
        go_roundg (H.length - (kk + 1))
        case measure => omega
        case rel =>
          obtain ⟨f1, f2⟩ := FF.out.1 (by first | rfl | trivial)
          exact ⟨kk + 1, F ++ [y], true, by omega, by omega, by go_num, rfl, HB_w2, HO_w2, ⟨fun _ => ⟨by rw [HT.out, put_in h y _ f2, f1], by obtain ⟨x, hx, hx2⟩ := f2; exact ⟨x, by rw [HT.out]; simp [hx], hx2⟩⟩, fun z => by cases z⟩, by simp; omega⟩
      | false =>
        obtain ⟨f1, f2⟩ := FF.out.2 (by first | rfl | trivial)
        by_cases a0 : h.f0 < y.f0
        · have t1 : decide (h.f0 < y.f0) = true := decide_eq_true a0
          have HLT := Aside0.mk (show ltH h y = true by unfold ltH; rw [t1]; rfl)
          have F1 := Aside0.mk f1
          have F2 := Aside0.mk f2
          have hF : F.length ≤ kk := by rw [f1, List.length_take]; omega
          clear f1 f2
          go_upto_region 9 with ((with_reducible refine gate_builtin (b := .append) (xs := #[.tmp 47, .tmp 49]) rfl ?_); at_builtin; refine Kd.R_append k56 (w0 := W) W.heap.size rfl (.tmp 47) (.tmp 49) 54 56 (.agg #[.int .i64 0, .string ⟨#[]⟩, .int .i64 0, .int .i64 0]) 40 rfl Try.underlying54 infoQ rfl (by decide) (by omega) u4 F h [.int .i64 h.f0, .string h.f1, .int .i64 h.f2, .int .i64 h.f3] (fun k => W.heap.size ≤ k) (fun _ => False) rfl rfl (k56_mkM _ _ _ h) (fun _ hk => hk.elim) ?aF ?aO ?aB ?aS ?aL ?_; (case aF => exact (fun k hk => by omega)); (case aO => exact HRV.out); (case aB => exact HBV.out); (case aS => omega); (case aL => omega); intro v2 w2 ho hb hg hat; have HO_w2 := Aside0.mk ho; have HB_w2 := Aside0.mk hb; have HG_w2 := Aside0.mk hg; clear ho hb hg hat)
          clear q0 q1 q2 q3 x0 x1 x2 x3
          obtain ⟨q0, q1, q2, q3, x0, x1, x2, x3⟩ := HS.out w2 HG_w2.out
          have hwz2 : W.heap.size ≤ w2.heap.size := HB_w2.out.size
          have hfl2 : (F ++ [h]).length ≤ kk + 1 := by simp; omega
          go_wp2_with ((with_reducible refine gate_builtin (b := .append) (xs := #[.tmp 51, .tmp 53]) rfl ?_); at_builtin; refine Kd.R_append k56 (w0 := W) W.heap.size rfl (.tmp 51) (.tmp 53) 54 56 (.agg #[.int .i64 0, .string ⟨#[]⟩, .int .i64 0, .int .i64 0]) 40 rfl Try.underlying54 infoQ rfl (by decide) (by omega) v2 (F ++ [h]) y [.int .i64 y.f0, .string y.f1, .int .i64 y.f2, .int .i64 y.f3] (fun k => W.heap.size ≤ k) (fun _ => False) rfl rfl (k56_mkM _ _ _ y) (fun _ hk => hk.elim) ?aF ?aO ?aB ?aS ?aL ?_; (case aF => exact (fun k hk => by omega)); (case aO => exact HO_w2.out); (case aB => exact HB_w2.out); (case aS => omega); (case aL => omega); intro v3 w3 ho hb hg hat; have HO_w3 := Aside0.mk ho; have HB_w3 := Aside0.mk hb; clear ho hb hg hat)
          go_roundg (H.length - (kk + 1))
          case measure => omega
          case rel => exact ⟨kk + 1, F ++ [h] ++ [y], true, by omega, by omega, by go_num, rfl, HB_w3, HO_w3, ⟨fun _ => ⟨by rw [HT.out, put_out h [y] _ F2.out, putH, if_pos HLT.out, F1.out]; simp, ⟨y, by rw [HT.out]; simp, HLT.out⟩⟩, (fun z => by cases z)⟩, by simp; omega⟩
        · have t1 : decide (h.f0 < y.f0) = false := decide_eq_false a0
          by_cases a1 : h.f0 = y.f0
          · have t2 : (h.f0 == y.f0) = true := beq_iff_eq.mpr a1
            cases t3 : Op.bytesLess h.f1.toList y.f1.toList with
            | true =>
              have HLT := Aside0.mk (show ltH h y = true by unfold ltH; rw [t1, t3, decide_eq_true a1]; rfl)
              clear a1
              have F1 := Aside0.mk f1
              have F2 := Aside0.mk f2
              have hF : F.length ≤ kk := by rw [f1, List.length_take]; omega
              clear f1 f2
              go_upto_region 9 with ((with_reducible refine gate_builtin (b := .append) (xs := #[.tmp 47, .tmp 49]) rfl ?_); at_builtin; refine Kd.R_append k56 (w0 := W) W.heap.size rfl (.tmp 47) (.tmp 49) 54 56 (.agg #[.int .i64 0, .string ⟨#[]⟩, .int .i64 0, .int .i64 0]) 40 rfl Try.underlying54 infoQ rfl (by decide) (by omega) u4 F h [.int .i64 h.f0, .string h.f1, .int .i64 h.f2, .int .i64 h.f3] (fun k => W.heap.size ≤ k) (fun _ => False) rfl rfl (k56_mkM _ _ _ h) (fun _ hk => hk.elim) ?aF ?aO ?aB ?aS ?aL ?_; (case aF => exact (fun k hk => by omega)); (case aO => exact HRV.out); (case aB => exact HBV.out); (case aS => omega); (case aL => omega); intro v2 w2 ho hb hg hat; have HO_w2 := Aside0.mk ho; have HB_w2 := Aside0.mk hb; have HG_w2 := Aside0.mk hg; clear ho hb hg hat)
              clear q0 q1 q2 q3 x0 x1 x2 x3
              obtain ⟨q0, q1, q2, q3, x0, x1, x2, x3⟩ := HS.out w2 HG_w2.out
              have hwz2 : W.heap.size ≤ w2.heap.size := HB_w2.out.size
              have hfl2 : (F ++ [h]).length ≤ kk + 1 := by simp; omega
              go_wp2_with ((with_reducible refine gate_builtin (b := .append) (xs := #[.tmp 51, .tmp 53]) rfl ?_); at_builtin; refine Kd.R_append k56 (w0 := W) W.heap.size rfl (.tmp 51) (.tmp 53) 54 56 (.agg #[.int .i64 0, .string ⟨#[]⟩, .int .i64 0, .int .i64 0]) 40 rfl Try.underlying54 infoQ rfl (by decide) (by omega) v2 (F ++ [h]) y [.int .i64 y.f0, .string y.f1, .int .i64 y.f2, .int .i64 y.f3] (fun k => W.heap.size ≤ k) (fun _ => False) rfl rfl (k56_mkM _ _ _ y) (fun _ hk => hk.elim) ?aF ?aO ?aB ?aS ?aL ?_; (case aF => exact (fun k hk => by omega)); (case aO => exact HO_w2.out); (case aB => exact HB_w2.out); (case aS => omega); (case aL => omega); intro v3 w3 ho hb hg hat; have HO_w3 := Aside0.mk ho; have HB_w3 := Aside0.mk hb; clear ho hb hg hat)
              go_roundg (H.length - (kk + 1))
              case measure => omega
              case rel => exact ⟨kk + 1, F ++ [h] ++ [y], true, by omega, by omega, by go_num, rfl, HB_w3, HO_w3, ⟨fun _ => ⟨by rw [HT.out, put_out h [y] _ F2.out, putH, if_pos HLT.out, F1.out]; simp, ⟨y, by rw [HT.out]; simp, HLT.out⟩⟩, (fun z => by cases z)⟩, by simp; omega⟩
            | false =>
              have HLT := Aside0.mk (show ltH h y = false by unfold ltH; rw [t1, t3, decide_eq_true a1]; rfl)
              clear a1
              have F1 := Aside0.mk f1
              have F2 := Aside0.mk f2
              have hF : F.length ≤ kk := by rw [f1, List.length_take]; omega
              clear f1 f2
              go_upto_region 10 with (fail)
              go_wp2_with ((with_reducible refine gate_builtin (b := .append) (xs := #[.tmp 51, .tmp 53]) rfl ?_); at_builtin; refine Kd.R_append k56 (w0 := W) W.heap.size rfl (.tmp 51) (.tmp 53) 54 56 (.agg #[.int .i64 0, .string ⟨#[]⟩, .int .i64 0, .int .i64 0]) 40 rfl Try.underlying54 infoQ rfl (by decide) (by omega) u4 F y [.int .i64 y.f0, .string y.f1, .int .i64 y.f2, .int .i64 y.f3] (fun k => W.heap.size ≤ k) (fun _ => False) rfl rfl (k56_mkM _ _ _ y) (fun _ hk => hk.elim) ?aF ?aO ?aB ?aS ?aL ?_; (case aF => exact (fun k hk => by omega)); (case aO => exact HRV.out); (case aB => exact HBV.out); (case aS => omega); (case aL => omega); intro v2 w2 ho hb hg hat; have HO_w2 := Aside0.mk ho; have HB_w2 := Aside0.mk hb; clear ho hb hg hat)
              go_roundg (H.length - (kk + 1))
              case measure => omega
              case rel => exact ⟨kk + 1, F ++ [y], false, by omega, by omega, by go_num, rfl, HB_w2, HO_w2, ⟨(fun z => by cases z), fun _ => ⟨by rw [HT.out, F1.out], fun x hx => by
                rw [HT.out, List.mem_append, List.mem_singleton] at hx
                rcases hx with e | e
                · exact F2.out x e
                · rw [e]; exact HLT.out⟩⟩, by simp; omega⟩
          · have t2 : (h.f0 == y.f0) = false := beq_eq_false_iff_ne.mpr a1
            have HLT := Aside0.mk (show ltH h y = false by unfold ltH; rw [t1, decide_eq_false a1]; rfl)
            have F1 := Aside0.mk f1
            have F2 := Aside0.mk f2
            have hF : F.length ≤ kk := by rw [f1, List.length_take]; omega
            clear f1 f2
            go_upto_region 10 with (fail)
            go_wp2_with ((with_reducible refine gate_builtin (b := .append) (xs := #[.tmp 51, .tmp 53]) rfl ?_); at_builtin; refine Kd.R_append k56 (w0 := W) W.heap.size rfl (.tmp 51) (.tmp 53) 54 56 (.agg #[.int .i64 0, .string ⟨#[]⟩, .int .i64 0, .int .i64 0]) 40 rfl Try.underlying54 infoQ rfl (by decide) (by omega) u4 F y [.int .i64 y.f0, .string y.f1, .int .i64 y.f2, .int .i64 y.f3] (fun k => W.heap.size ≤ k) (fun _ => False) rfl rfl (k56_mkM _ _ _ y) (fun _ hk => hk.elim) ?aF ?aO ?aB ?aS ?aL ?_; (case aF => exact (fun k hk => by omega)); (case aO => exact HRV.out); (case aB => exact HBV.out); (case aS => omega); (case aL => omega); intro v2 w2 ho hb hg hat; have HO_w2 := Aside0.mk ho; have HB_w2 := Aside0.mk hb; clear ho hb hg hat)
            go_roundg (H.length - (kk + 1))
            case measure => omega
            case rel => exact ⟨kk + 1, F ++ [y], false, by omega, by omega, by go_num, rfl, HB_w2, HO_w2, ⟨(fun z => by cases z), fun _ => ⟨by rw [HT.out, F1.out], fun x hx => by
              rw [HT.out, List.mem_append, List.mem_singleton] at hx
              rcases hx with e | e
              · exact F2.out x e
              · rw [e]; exact HLT.out⟩⟩, by simp; omega⟩
    · have hltz : ¬ (kk : Int) < (H.length : Int) := by omega
      have q1 := (BW.out.cell (World.block_lt_of_cell? W _ r1)).trans r1
      have ek : H.take kk = H := List.take_of_length_le (by omega)
      obtain ⟨B1, d1, B2, d2, hblk, hRR, _⟩ := HR.out.own
      have HRB := Aside0.mk hblk
      have HRW := Aside0.mk hRR
      have HRR := Aside0.mk (Kd.R_below hRR BW.out)
      have hrW : r < W.heap.size := HR.out.lt
      have hwz : W.heap.size ≤ wr.heap.size := BW.out.size
      have hne : ∀ k, ok k → k ≠ r := fun k hk e => hokr (e ▸ hk)
      have hkK := blk_below HK.out BW.out
      have z0 : wr.cell? ⟨w.heap.size, 0, none⟩ = some (.int .i64 h.f0) := blk_cell hkK 0
      have z1 : wr.cell? ⟨w.heap.size, 1, none⟩ = some (.string h.f1) := blk_cell hkK 1
      have z2 : wr.cell? ⟨w.heap.size, 2, none⟩ = some (.int .i64 h.f2) := blk_cell hkK 2
      have z3 : wr.cell? ⟨w.heap.size, 3, none⟩ = some (.int .i64 h.f3) := blk_cell hkK 3
      clear hblk hkK hRR
      cases inn with
      | true =>
        have FEQ := Aside0.mk (show F = MM by rw [← HMM.out]; have := (FF.out.1 (by first | rfl | trivial)).1; rw [ek] at this; exact this)
        clear FF ek z0 z1 z2 z3
        obtain ⟨A3, c3, rfl, hc3, _⟩ := Kd.R_reads RR.out
        have hkb := blk_below HRB.out BW.out
        have HKB := Aside0.mk hkb
        have hf := blk_frozen hkb 1
        clear hkb
        go_wp2
        go_end0
        refine ⟨rfl, ?_, ?_⟩
        · rw [← FEQ.out]
          exact ⟨B1, d1, A3, c3, blk_set HKB.out 1 _, Kd.R_far HRR.out (p := ⟨r, 1, none⟩) (fun k hk => hne k hk) _, Kd.R_mono (Kd.R_lower (Kd.R_far RR.out (p := ⟨r, 1, none⟩) (fun k hk => by show k ≠ r; omega) _) (Nat.zero_le _)) hokW⟩
        · exact (below_grown HW.out (some r)).andThen (row' := some r) ⟨(BW.out).os, (BW.out).tape, (BW.out).output, by have := (BW.out).size; simpa [World.setCell] using this, fun k hk hne => (Below.heap_setCell wr ⟨r, 1, none⟩ _ k (by simpa using hne)).trans ((BW.out).block k hk)⟩ (fun j hj => .inr hj)
      | false =>
        obtain ⟨f1, f2⟩ := FF.out.2 (by first | rfl | trivial)
        have hF : F.length ≤ kk := by rw [f1, List.length_take]; omega
        have FEQ := Aside0.mk (show F ++ [h] = MM by rw [← HMM.out, f1, ek]; rw [ek] at f2; have := put_out h [] H f2; rw [List.append_nil] at this; rw [this]; rfl)
        clear FF ek f1 f2
        go_upto_region 13 with ((with_reducible refine gate_builtin (b := .append) (xs := #[.tmp 57, .tmp 59]) rfl ?_); at_builtin; refine Kd.R_append k56 (w0 := W) W.heap.size rfl (.tmp 57) (.tmp 59) 54 56 (.agg #[.int .i64 0, .string ⟨#[]⟩, .int .i64 0, .int .i64 0]) 40 rfl Try.underlying54 infoQ rfl (by decide) (by omega) u4 F h [.int .i64 h.f0, .string h.f1, .int .i64 h.f2, .int .i64 h.f3] (fun k => W.heap.size ≤ k) (fun _ => False) rfl rfl (k56_mkM _ _ _ h) (fun _ hk => hk.elim) ?aF ?aO ?aB ?aS ?aL ?_; (case aF => exact (fun k hk => by omega)); (case aO => exact RR.out); (case aB => exact BW.out); (case aS => omega); (case aL => omega); intro v2 w2 ho hb hg hat; have HO2 := Aside0.mk ho; have HB2 := Aside0.mk hb; clear ho hb hg hat)
        clear z0 z1 z2 z3 q1
        have q2 := (HB2.out.cell (World.block_lt_of_cell? W _ r1)).trans r1
        obtain ⟨A3, c3, e3, hc3, _⟩ := Kd.R_reads HO2.out
        rw [show (F ++ [h]).length = F.length + 1 by simp] at e3
        subst e3
        have hkb := blk_below HRB.out HB2.out
        have HKB := Aside0.mk hkb
        have hf := blk_frozen hkb 1
        have HRR2 := Aside0.mk (Kd.R_below (show k47.R 47 W 0 ok (.slice B1 R.length d1) R from HRW.out) HB2.out)
        clear hkb
        go_wp2
        go_end0
        refine ⟨rfl, ?_, ?_⟩
        · rw [← FEQ.out]
          refine ⟨B1, d1, A3, c3, by rw [show (F ++ [h]).length = F.length + 1 by simp]; exact blk_set HKB.out 1 _, Kd.R_far HRR2.out (p := ⟨r, 1, none⟩) (fun k hk => hne k hk) _, ?_⟩
          have hz := fun (u : Value) => Kd.R_mono (Kd.R_lower (Kd.R_far HO2.out (p := ⟨r, 1, none⟩) (fun k hk => by show k ≠ r; omega) u) (Nat.zero_le _)) hokW
          rw [show (F ++ [h]).length = F.length + 1 by simp]
          exact hz _
        · exact (below_grown HW.out (some r)).andThen (row' := some r) ⟨(HB2.out).os, (HB2.out).tape, (HB2.out).output, by have := (HB2.out).size; simpa [World.setCell] using this, fun k hk hne => (Below.heap_setCell w2 ⟨r, 1, none⟩ _ k (by simpa using hne)).trans ((HB2.out).block k hk)⟩ (fun j hj => .inr hj)
end Go.Proofs.Ytgdnljhndjlefaa.QNeedFits

/- The reference's pool: all or nothing; all that an owner holds. No conditions beyond those that each theorem names. -/
namespace Go.Proofs.Ytgdnljhndjlefaa.QNeedFits
open Go.RowKit Go.Proofs.Ytgdnljhndjlefaa.PNeedFits Go.Proofs.YtgdnljhndjlefaaW.PrintWords Go.Proofs.YtgdnljhndjlefaaW.PrintLast Go.Proofs.YtgdnljhndjlefaaW.PrintMore Go.Proofs.Ytgdnljhndjlefaa.MMaps
set_option linter.unusedVariables false
set_option linter.unusedSimpArgs false
set_option maxRecDepth 100000
theorem row_ne {w : World} {r : Nat} {v1 v2 : Value} {t : TypeId} (h : w.heap[r]? = some (.cells #[v1, v2] t (0, 0))) (h1 : ∀ s, v1 ≠ .string s) (h2 : ∀ s, v2 ≠ .string s) {a : Addr} {s : ByteArray} (hc : w.cell? a = some (.string s)) : a.block ≠ r := by
  intro e
  subst e
  unfold World.cell? at hc
  rw [h] at hc
  simp only at hc
  match ho : a.off with
  | 0 => rw [ho] at hc; simp at hc; first | exact h1 s hc | (obtain ⟨_, hc⟩ := hc; exact h1 s hc)
  | 1 => rw [ho] at hc; simp at hc; first | exact h2 s hc | (obtain ⟨_, hc⟩ := hc; exact h2 s hc)
  | n + 2 => rw [ho] at hc; simp at hc
theorem takes_take' (o : Int) (L : List Nr) (H : List Hd) (i : Nat) (h : i < L.length) : takes o ((L.take (i + 1)).map toN) H = putH (heldAs o (toN L[i])) (takes o ((L.take i).map toN) H) := by
  unfold takes
  rw [List.take_succ_eq_append_getElem h, List.map_append, List.foldl_append]; rfl
set_option maxHeartbeats 16000000 in
theorem RTake.calls (r : Nat) (ok : Nat → Prop) (R : List Rs) (H : List Hd) (o : Int) (A0 : Option Addr) (c0 : Nat) (L : List Nr) (w : World) (h : RefAt w r ok R H) (hgd : Good R H) (hC : Kd.C k80 w A0 L.length L) (hc : L.length ≤ c0) (hll : L.length ≤ 1000000000000000) (hlen : mayOf R H o (ndL L) = 0 → H.length + L.length ≤ 100000) (hok : ∀ k, w.heap.size ≤ k → ok k) (hokr : ¬ ok r) : Calls Try.prog 14 #[.pointer (some ⟨r, 0, none⟩), .int .i64 o, .slice A0 L.length c0] w fun e w' => e = .returned (.int .i64 (mayOf R H o (ndL L))) ∧ RefAt w' r ok R (takeOf R H o (ndL L)) ∧ w.grownBy w' (some r) := by
  have hM := RMay.calls r ok R H o A0 c0 L w h hgd hC hc hll
  rw [show L.map toN = ndL L from rfl] at hM
  obtain ⟨M, hMM⟩ : ∃ M, takeOf R H o (ndL L) = M := ⟨_, rfl⟩
  rw [hMM]
  have HMM := Aside0.mk hMM
  have HR := Aside0.mk h
  have HC := Aside0.mk hC
  clear h hC hMM
  by_cases hz : mayOf R H o (ndL L) = 0
  · have hln := hlen hz
    have HX := Aside0.mk (show takes o (ndL L) H = M by rw [← HMM.out, takeOf, if_pos hz])
    rw [hz] at hM ⊢
    clear hz hlen
    go_enter Try.func14, Try.ntmps14
    go_wp2_with (go_at_call 31; refine hM.mono ?_; rintro e w1 ⟨rfl, B1⟩)
    go_loopg [8] L.length (fun gg v8 wr => ∃ i : Nat, i ≤ L.length ∧ L.length - i ≤ gg ∧ v8 = .int .i64 i ∧ Aside0 (RefAt wr r ok R (takes o ((L.take i).map toN) H)) ∧ Aside0 (w.grownBy wr (some r)))
    case atStart => exact ⟨0, Nat.zero_le _, by omega, rfl, ⟨HR.out.below B1⟩, ⟨below_grown B1 _⟩⟩
    case round =>
      obtain ⟨i, hi, hg, rfl, HRR, HGR⟩ := hrel
      by_cases hlt : i < L.length
      · have b2 : decide ((i : Int) < (L.length : Int)) = true := decide_eq_true (by omega)
        have b3 : (i : Int) < (L.length : Int) := by omega
        have hz0 : (0 : Int) ≤ (i : Int) := by omega
        obtain ⟨ad, e, x0, x1, x2⟩ := at_T80 HC.out (i : Int) hz0 b3
        cases e
        have hbk := World.block_lt_of_cell? w _ x0
        have hnm : (ad.add ((i : Int).toNat * 3)).block ≠ r := by obtain ⟨B1, d1, B2, d2, hb, _⟩ := HR.out.own; exact row_ne hb (fun s e => by cases e) (fun s e => by cases e) x0
        rw [rdnr_at L i hlt, Int.toNat_natCast] at x0 x1 x2
        rw [Int.toNat_natCast] at hbk hnm
        have htt := takes_take' o L H i hlt
        have hblk := HGR.out.block _ hbk (by simpa using hnm)
        obtain ⟨x, hx⟩ : ∃ x, L[i] = x := ⟨_, rfl⟩
        rw [hx] at x0 x1 x2 htt
        clear hx
        have HTT := Aside0.mk htt
        have hgz := HGR.out.size
        have hFl : (takes o ((L.take i).map toN) H).length ≤ 100000 := by rw [takes_length, List.length_map, List.length_take]; omega
        have HS : Aside0 (∀ W : World, Below wr.heap.size wr W → W.cell? (ad.add (i * 3)) = some (.string x.f0) ∧ W.cell? ⟨(ad.add (i * 3)).block, (ad.add (i * 3)).off + 1, none⟩ = some (.int .i64 x.f1) ∧ W.cell? ⟨(ad.add (i * 3)).block, (ad.add (i * 3)).off + 2, none⟩ = some (.int .i64 x.f2)) := ⟨fun W hW => by
          have e1 := (World.cell?_of_block (w := w) (a := ad.add (i * 3)) hblk).trans x0
          have e2 := (World.cell?_of_block (w := w) (a := ⟨(ad.add (i * 3)).block, (ad.add (i * 3)).off + 1, none⟩) hblk).trans x1
          have e3 := (World.cell?_of_block (w := w) (a := ⟨(ad.add (i * 3)).block, (ad.add (i * 3)).off + 2, none⟩) hblk).trans x2
          exact ⟨(hW.cell (World.block_lt_of_cell? wr _ e1)).trans e1, (hW.cell (World.block_lt_of_cell? wr _ e2)).trans e2, (hW.cell (World.block_lt_of_cell? wr _ e3)).trans e3⟩⟩
        clear x0 x1 x2 htt hblk
        generalize takes o ((L.take i).map toN) H = F at *
        have hP := fun (W : World) (hW : Below wr.heap.size wr W) => put.calls r ok R F (heldAs o (toN x)) W (HRR.out.below hW) hFl (fun k hk => hok k (Nat.le_trans hgz (Nat.le_trans hW.size hk))) hokr
        obtain ⟨x0, x1, x2⟩ := HS.out wr (Below.refl _ _)
        have hbd : ∀ o, Below wr.heap.size wr ((wr.alloc o).drew) := fun o => below_drew1 (below_alloc (Below.refl _ _) _)
        have hbe : Below wr.heap.size wr wr.drew := below_drew1 (Below.refl _ _)
        have z0 := fun o => (HS.out _ (hbd o)).1
        have z1 := fun o => (HS.out _ (hbd o)).2.1
        have z2 := fun o => (HS.out _ (hbd o)).2.2
        obtain ⟨z3, z4, z5⟩ := HS.out _ hbe
        go_upto_region 7 with (fail)
        go_region
        obtain ⟨V, hV⟩ : ∃ V, V = (wr.alloc (.cells #[.int .i64 o, .string x.f0, .int .i64 0, .int .i64 x.f2] 56 (0, 0))).drew := ⟨_, rfl⟩
        have hbV : Below wr.heap.size wr V := by rw [hV]; exact hbd _
        have kb : V.heap[wr.heap.size]? = some (.cells #[.int .i64 o, .string x.f0, .int .i64 0, .int .i64 x.f2] 56 (0, 0)) := by rw [hV]; exact blk_new _ _
        rw [← hV]
        clear hV x0 x1 x2 z0 z1 z2 z3 z4 z5 hbd hbe
        obtain ⟨x0, x1, x2⟩ := HS.out V hbV
        have y0 : V.cell? ⟨wr.heap.size, 0, none⟩ = some (.int .i64 o) := blk_cell kb 0
        have y1 : V.cell? ⟨wr.heap.size, 1, none⟩ = some (.string x.f0) := blk_cell kb 1
        have y2 : V.cell? ⟨wr.heap.size, 2, none⟩ = some (.int .i64 0) := blk_cell kb 2
        have y3 : V.cell? ⟨wr.heap.size, 3, none⟩ = some (.int .i64 x.f2) := blk_cell kb 3
        by_cases m0 : x.f2 = 0
        · have t0 : (x.f2 == 0) = true := beq_iff_eq.mpr m0
          have hfr := blk_frozen kb 2
          have hP2 := hP (V.setCell ⟨wr.heap.size, 2, none⟩ (.int .i64 x.f1)) (below_set hbV (Nat.le_refl _))
          have kb2 := blk_set kb 2 (.int .i64 x.f1)
          rw [show heldAs o (toN x) = ⟨o, x.f0, x.f1, x.f2⟩ by unfold heldAs toN; dsimp only; rw [if_pos m0]] at hP2 HTT
          have v0 : (V.setCell ⟨wr.heap.size, 2, none⟩ (.int .i64 x.f1)).cell? ⟨wr.heap.size, 0, none⟩ = some (.int .i64 o) := blk_cell kb2 0
          have v1 : (V.setCell ⟨wr.heap.size, 2, none⟩ (.int .i64 x.f1)).cell? ⟨wr.heap.size, 1, none⟩ = some (.string x.f0) := blk_cell kb2 1
          have v2 : (V.setCell ⟨wr.heap.size, 2, none⟩ (.int .i64 x.f1)).cell? ⟨wr.heap.size, 2, none⟩ = some (.int .i64 x.f1) := blk_cell kb2 2
          have v3 : (V.setCell ⟨wr.heap.size, 2, none⟩ (.int .i64 x.f1)).cell? ⟨wr.heap.size, 3, none⟩ = some (.int .i64 x.f2) := blk_cell kb2 3
          clear m0 kb kb2 hP
          go_wp2_with (go_at_call 32; refine hP2.mono ?_; rintro e w9 ⟨rfl, hR9, hG9⟩)
          go_roundg (L.length - (i + 1))
          case measure => omega
          case rel => exact ⟨i + 1, by omega, Nat.le_refl _, by go_num, ⟨by rw [HTT.out]; exact hR9⟩, ⟨HGR.out.andThen (row' := some r) ((below_grown (below_set hbV (Nat.le_refl _)) (some r)).andThen (row' := some r) hG9 (fun j hj => .inr hj)) (fun j hj => .inr hj)⟩⟩
        · have t0 : (x.f2 == 0) = false := beq_eq_false_iff_ne.mpr m0
          have hP2 := hP V hbV
          rw [show heldAs o (toN x) = ⟨o, x.f0, 0, x.f2⟩ by unfold heldAs toN; dsimp only; rw [if_neg m0]] at hP2 HTT
          clear m0 kb hP
          go_wp2_with (go_at_call 32; refine hP2.mono ?_; rintro e w9 ⟨rfl, hR9, hG9⟩)
          go_roundg (L.length - (i + 1))
          case measure => omega
          case rel => exact ⟨i + 1, by omega, Nat.le_refl _, by go_num, ⟨by rw [HTT.out]; exact hR9⟩, ⟨HGR.out.andThen (row' := some r) ((below_grown hbV (some r)).andThen (row' := some r) hG9 (fun j hj => .inr hj)) (fun j hj => .inr hj)⟩⟩
      · have b2 : decide ((i : Int) < (L.length : Int)) = false := decide_eq_false (by omega)
        have hP9 := HRR.out
        rw [List.take_of_length_le (by omega), show L.map toN = ndL L from rfl, HX.out] at hP9
        go_wp2
        go_ret
        exact ⟨rfl, hP9, HGR.out⟩
  · have n0 : (mayOf R H o (ndL L) == 0) = false := beq_eq_false_iff_ne.mpr hz
    have HX := Aside0.mk (show H = M by rw [← HMM.out, takeOf, if_neg hz])
    generalize mayOf R H o (ndL L) = e0 at *
    go_enter Try.func14, Try.ntmps14
    go_wp2_with (go_at_call 31; refine hM.mono ?_; rintro e w1 ⟨rfl, B1⟩)
    go_ret
    exact ⟨rfl, by rw [← HX.out]; exact HR.out.below B1, below_grown B1 _⟩
end Go.Proofs.Ytgdnljhndjlefaa.QNeedFits
