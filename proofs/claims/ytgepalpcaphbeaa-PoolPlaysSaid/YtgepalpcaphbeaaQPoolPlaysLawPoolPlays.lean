/- The law PoolPlays, walked: for all resources and calls it comes to true. Each theorem names its own conditions. -/
import Derived.Test.YtgepalpcaphbeaaQPoolPlaysPoolActs
namespace Go.Proofs.Ytgepalpcaphbeaa.QPoolPlays
open Go.RowKit Go.Proofs.Ytgepalpcaphbeaa.PPoolPlays Go.Proofs.YtgepalpcaphbeaaW.PrintWords Go.Proofs.YtgepalpcaphbeaaW.PrintLast Go.Proofs.YtgepalpcaphbeaaW.PrintMore Go.Proofs.Ytgepalpcaphbeaa.MMaps
set_option linter.unusedVariables false
set_option linter.unusedSimpArgs false
set_option maxRecDepth 100000
theorem test_not {a b : Prop} [Decidable a] [Decidable b] (h : ¬ (a ∧ b)) : (¬ a ∧ decide a = false) ∨ (a ∧ decide a = true ∧ ¬ b ∧ decide b = false) := by
  by_cases ha : a
  · exact .inr ⟨ha, decide_eq_true ha, (fun hb => h ⟨ha, hb⟩), decide_eq_false (fun hb => h ⟨ha, hb⟩)⟩
  · exact .inl ⟨ha, decide_eq_false ha⟩
set_option maxHeartbeats 32000000 in
theorem plays_walk (A0 : Option Addr) (c0 : Nat) (l : List Rs) (A1 : Option Addr) (c1 : Nat) (acts : List Turn) (w : World) (hl : Kd.C k53 w A0 l.length l) (hlc : l.length ≤ c0) (hlw : ∀ r ∈ l, wfR r) (hll : l.length ≤ 4398046511100) (ha : Kd.C kA w A1 acts.length acts) (hac : acts.length ≤ c1) (haw : ∀ a ∈ acts, wfT a) (hal : acts.length ≤ 4398046511100) :
    Calls Try.prog 6 #[.slice A0 l.length c0, .slice A1 acts.length c1] w fun e w' => e = .returned (.bool true) ∧ Below w.heap.size w w' := by
  have hk := fun (W : World) => known.calls W
  have HL := Aside0.mk hl
  have HA := Aside0.mk ha
  clear ha
  by_cases big : 20 < l.length
  · have b1 : decide ((l.length : Int) > 20) = true := decide_eq_true (by omega)
    have b2 : decide ((20 : Int) < (l.length : Int)) = true := decide_eq_true (by omega)
    clear hl
    go_enter Try.func6, Try.ntmps6
    go_wp2_with (go_at_call 8; refine (hk _).mono ?_; rintro e w1 ⟨rfl, b⟩)
    go_ret
    exact ⟨rfl, b⟩
  · have b1 : decide ((l.length : Int) > 20) = false := decide_eq_false (by omega)
    have b2 : decide ((20 : Int) < (l.length : Int)) = false := decide_eq_false (by omega)
    have hres := res.calls A0 c0 l w hl hlc (by omega)
    clear hl
    have hRl := poolR_len l
    go_enter Try.func6, Try.ntmps6
    go_upto_region 7 with (first
      | (go_at_call 10; refine hres.mono ?_; rintro e w1 ⟨v, rfl, hR1, hB1⟩; obtain ⟨A2, k2, e2, hk2, hC2⟩ := Kd.R_reads hR1; rw [List.length_map] at e2 hk2; subst e2; clear hR1 hres)
      | (go_at_call 9; refine (New.of A2 k2 l w1 hC2 hk2 hlw (by omega)).mono ?_; rintro e w2 ⟨p, bt, bh, rfl, hp, hbt, hbh, hP2, hB2⟩; have q2 := below_go hB1 hB1.size hB2; have hpb := Nat.le_trans hB1.size hp; have hbtb := Nat.le_trans hB1.size hbt; have hbhb := Nat.le_trans hB1.size hbh; clear hC2 hp hbt hbh hB2 hB1)
      | (go_at_call 16; refine (RNew.calls A0 c0 l w2 (Kd.C_below HL.out q2) hlc (by omega)).mono ?_; rintro e w3 ⟨rfl, hR3, hB3⟩))
    have HR0 : Turns w w3 w2.heap.size p bt bh (poolR l) [] := by
      have l1 := hP2.ltp
      have l2 := hP2.things.lt
      have l3 := hP2.held.lt
      have l4 := q2.size
      exact ⟨⟨hP2.below hB3, hR3.mono (fun k h1 h2 => ⟨by omega, by omega, by omega, by omega, by omega⟩), by omega, by omega, by omega, fun k => k.2.1 rfl, fun k => k.2.2.1 rfl, fun k => k.2.2.2.1 rfl, fun k => k.2.2.2.2 rfl⟩, below_go q2 q2.size hB3, hpb, hbtb, hbhb, l4⟩
    clear hP2 hR3 hB3 q2 hpb hbtb hbhb
    generalize w2.heap.size = r at *
    have hRl2 : (poolR l).length ≤ 20 := by omega
    clear hRl
    generalize poolR l = R0 at *
    go_wp2
    go_loopg [5, 7, 8, 9, 10, 11, 12, 13, 14, 15, 16, 17, 18] acts.length (fun gg v5 v7 v8 v9 v10 v11 v12 v13 v14 v15 v16 v17 v18 wr => ∃ (i p bt bh : Nat) (R : List Rs) (H : List Hd), i ≤ acts.length ∧ acts.length - i ≤ gg ∧ v5 = .pointer (some ⟨p, 0, none⟩) ∧ v7 = .int .i64 i ∧ i ≤ 60 ∧ R.length ≤ 20 ∧ H.length ≤ 20 * i ∧ Turns w wr r p bt bh R H)
    case atStart => exact ⟨0, p, bt, bh, R0, [], Nat.zero_le _, by omega, rfl, rfl, by omega, hRl2, Nat.zero_le _, HR0⟩
    case round =>
      clear HR0
      obtain ⟨i, p, bt, bh, R, H, hi, hg, rfl, rfl, hi60, hRl, hHl, HT⟩ := hrel
      by_cases go : (i : Int) < (acts.length : Int) ∧ (i : Int) < 60
      · obtain ⟨g1, g2⟩ := go
        have b3 : decide ((i : Int) < (acts.length : Int)) = true := decide_eq_true g1
        have b4 : decide ((i : Int) < 60) = true := decide_eq_true g2
        have hlt : i < acts.length := by omega
        obtain ⟨ad, B, cb, e, x0, x1, x2, x3, x4, hcb, hCB⟩ := at_A HA.out i hlt
        cases e
        have hbk := World.block_lt_of_cell? w _ x1
        have hwa := haw _ (List.getElem_mem hlt)
        obtain ⟨a, hA⟩ : ∃ a, acts[i] = a := ⟨_, rfl⟩
        rw [hA] at x0 x1 x2 x3 x4 hcb hCB hwa
        clear hA
        replace x0 := (HT.below.cell (p := ad.add (i * 5)) hbk).trans x0
        replace x1 := (HT.below.cell hbk).trans x1
        replace x2 := (HT.below.cell (p := ⟨(ad.add (i * 5)).block, (ad.add (i * 5)).off + 2, none⟩) hbk).trans x2
        replace x3 := (HT.below.cell (p := ⟨(ad.add (i * 5)).block, (ad.add (i * 5)).off + 3, none⟩) hbk).trans x3
        replace x4 := (HT.below.cell (p := ⟨(ad.add (i * 5)).block, (ad.add (i * 5)).off + 4, none⟩) hbk).trans x4
        go_upto_region 11 with (fail)
        obtain ⟨x, hxe⟩ : ∃ x, wr.heap.size = x := ⟨_, rfl⟩
        obtain ⟨W3, hW⟩ : ∃ W3, W3 = wr.alloc (.cells #[.int .i64 a.kind, .int .i64 a.owner, .slice B a.l.length cb, .string a.name, .int .i64 a.n] 31 (0, 0)) := ⟨_, rfl⟩
        have hbW : Below wr.heap.size wr W3 := by rw [hW]; exact below_alloc (Below.refl _ _) _
        have kb : W3.heap[x]? = some (.cells #[.int .i64 a.kind, .int .i64 a.owner, .slice B a.l.length cb, .string a.name, .int .i64 a.n] 31 (0, 0)) := by rw [← hxe, hW]; exact blk_new _ _
        rw [← hW]
        have hxt : x ≠ bt := by have := HT.both.pool.things.lt; omega
        have hxh : x ≠ bh := by have := HT.both.pool.held.lt; omega
        have hxr : x ≠ r := by have := HT.both.ref.lt; omega
        have hwx : w.heap.size ≤ x := by have := HT.below.size; omega
        have HT3 := HT.go hbW
        have HRx := Aside0.mk ((HT.both.ref.mono (ok' := fun k => okP w r p bt bh k ∧ k ≠ x) (fun k h1 h2 => ⟨h1, by omega⟩)).below hbW)
        have HS : Aside0 (∀ V : World, V.heap[x]? = W3.heap[x]? → V.cell? ⟨x, 0, none⟩ = some (.int .i64 a.kind) ∧ V.cell? ⟨x, 1, none⟩ = some (.int .i64 a.owner) ∧ V.cell? ⟨x, 2, none⟩ = some (.slice B a.l.length cb) ∧ V.cell? ⟨x, 3, none⟩ = some (.string a.name) ∧ V.cell? ⟨x, 4, none⟩ = some (.int .i64 a.n)) := ⟨fun V h => ⟨blk_cell (h.trans kb) 0, blk_cell (h.trans kb) 1, blk_cell (h.trans kb) 2, blk_cell (h.trans kb) 3, blk_cell (h.trans kb) 4⟩⟩
        have hxW := blk_lt kb
        rw [hxe]
        clear hW kb HT x0 x1 x2 x3 x4
        have hbW0 := Aside0.mk hbW
        clear hbW
        obtain ⟨x0, x1, x2, x3, x4⟩ := HS.out W3 rfl
        by_cases bigl : 20 < a.l.length
        · have d1 : decide ((a.l.length : Int) > 20) = true := decide_eq_true (by omega)
          have d2 : decide ((20 : Int) < (a.l.length : Int)) = true := decide_eq_true (by omega)
          go_wp2
          go_roundg (acts.length - (i + 1))
          case measure => omega
          case rel => exact ⟨i + 1, p, bt, bh, R, H, by omega, Nat.le_refl _, rfl, by go_num, by omega, hRl, by omega, HT3⟩
        have d1 : decide ((a.l.length : Int) > 20) = false := decide_eq_false (by omega)
        have d2 : decide ((20 : Int) < (a.l.length : Int)) = false := decide_eq_false (by omega)
        have HH3 := Aside0.mk HT3
        by_cases k8 : a.kind = 8
        focus
          rw [k8] at x0
          have hCopy := Copy.calls p bt bh R H W3 HT3.both.pool
          go_upto_region 16 with (go_at_call 21; refine hCopy.mono ?_; rintro e1 w4 ⟨p', bt', bh', rfl, hp', hbt', hbh', hP4, hB4⟩)
          have HO : Old w W3 w4 r p bt bh p' bt' bh' x R H := Old.start HH3.out hp' hbt' hbh' hP4 hB4 hxW hxh
          clear hCopy hP4 hB4 hp' hbt' hbh' HT3 x0 x1 x2 x3 x4
          go_wp2
          rename World => wo
          go_loopg [10] H.length (fun gg v10 wr2 => ∃ k : Nat, k ≤ H.length ∧ H.length - k ≤ gg ∧ v10 = .int .i64 k ∧ Old w W3 wr2 r p bt bh p' bt' bh' x R H)
          case atStart => exact ⟨0, Nat.zero_le _, by omega, rfl, HO⟩
          clear HO
          obtain ⟨k, hk0, hg3, rfl, HO⟩ := hrel
          obtain ⟨E1, f1, E2, f2, _, r1, _, hf2, _, hCH⟩ := HO.ref.reads
          by_cases hkl : k < H.length
          · have f3 : decide ((k : Int) < (H.length : Int)) = true := decide_eq_true (by omega)
            have f4 : (k : Int) < (H.length : Int) := by omega
            have f5 : (0 : Int) ≤ (k : Int) := by omega
            obtain ⟨ae, e, y0, y1, y2, y3⟩ := at_T55 hCH (k : Int) f5 f4
            cases e
            rw [rdhd_at H k hkl, Int.toNat_natCast] at y0
            clear y1 y2 y3 hCH
            generalize H[k].f0 = o at y0
            obtain ⟨M, hM⟩ := HO.was
            have hG := Give.calls p bt bh R M o wr hM
            go_wp2_with (go_at_call 11; refine hG.mono ?_; rintro e5 w5 ⟨rfl, hP5, hg5⟩; have HO5 := HO.step hP5 hg5; clear hG hP5 hg5)
            go_roundg (H.length - (k + 1))
            case measure => omega
            case rel => exact ⟨k + 1, by omega, Nat.le_refl _, by go_num, HO5⟩
          have f3 : decide ((k : Int) < (H.length : Int)) = false := decide_eq_false (by omega)
          have HZ := HO.done
          have kx4 := HO.box
          clear hCH
          go_upto_region 23 with (fail)
          clear HO r1 f3 hf2 hk0 hg3 hkl HH3 HRx k8
          have hHz : H.length ≤ 20 * (i + 1) := by omega
          have hRz : R.length ≤ 20 := hRl
          clear hRl hHl
          generalize p' = pz at *
          generalize bt' = btz at *
          generalize bh' = bhz at *
          generalize R = Rz at *
          generalize H = Hz at *
          rename World => wz
        rotate_left
        focus
          have n8 : (a.kind == 8) = false := beq_eq_false_iff_ne.mpr k8
          have hokN := HT3.okNew
          have hDo := do.calls p bt bh r (fun k => okP w r p bt bh k ∧ k ≠ x) R H a B cb hwa W3 ⟨HT3.both.pool, HRx.out, HT3.both.pr, HT3.both.tr, HT3.both.hr, fun h => HT3.both.okr h.1, fun h => HT3.both.okp h.1, fun h => HT3.both.okt h.1, fun h => HT3.both.okh h.1⟩ w HT3.below HT3.bp HT3.bbt HT3.bbh HT3.br (fun g hg => hg.1.1) hCB hcb (by omega) (by omega) (fun j hj => ⟨hokN j hj, by omega⟩)
          go_upto_region 23 with (go_at_call 22; refine hDo.mono ?_; rintro e1 w4 ⟨rfl, h4, B4, AW4⟩)
          have HZ : Turns w w4 r p bt bh (doR a R) (doH a R H) := ⟨⟨h4.pool, h4.ref.mono (fun k hk _ => hk.1), h4.pr, h4.tr, h4.hr, HT3.both.okr, HT3.both.okp, HT3.both.okt, HT3.both.okh⟩, B4, HT3.bp, HT3.bbt, HT3.bbh, HT3.br⟩
          have kx4 := AW4.keep x hxW (fun h => h.2 rfl) hxt hxh hxr
          have hHz : (doH a R H).length ≤ 20 * (i + 1) := by have := doH_len a R H; omega
          have hRz : (doR a R).length ≤ 20 := by rw [doR_len]; exact hRl
          clear hDo h4 B4 AW4 HT3 HRx HH3 x0 x1 x2 x3 x4 hokN k8
          generalize doR a R = Rz at *
          generalize doH a R H = Hz at *
          generalize p = pz at *
          generalize bt = btz at *
          generalize bh = bhz at *
          rename World => wz
        all_goals
          have hlz : Hz.length ≤ 100000 := by omega
          have hgd := HZ.both.pool.good
          have hxz : x < wz.heap.size := blk_lt (kx4.trans (Array.getElem?_eq_getElem hxW))
          obtain ⟨E3, f6, E4, f7, _, r2, _, hf7, _, hCH⟩ := HZ.both.ref.reads
          have HCH := Aside0.mk hCH
          have HSV : Aside0 (∀ V, Below wz.heap.size wz V → V.cell? ⟨r, 1, none⟩ = some (.slice E4 Hz.length f7)) := ⟨fun V hV => (hV.cell (World.block_lt_of_cell? wz _ r2)).trans r2⟩
          have HSX : Aside0 (∀ V, Below wz.heap.size wz V → V.cell? ⟨x, 3, none⟩ = some (.string a.name)) := ⟨fun V hV => (HS.out V ((hV.block x hxz).trans kx4)).2.2.2.1⟩
          have hLs := fun (V : World) (hV : Below wz.heap.size wz V) => List.calls pz btz bhz Rz Hz V (HZ.both.pool.below hV)
          have hU := fun (V : World) (hV : Below wz.heap.size wz V) => Units.calls pz btz bhz Rz Hz a.name hwa.2.2.2.1 V (HZ.both.pool.below hV)
          have hF := fun (V : World) (hV : Below wz.heap.size wz V) => Free.calls pz btz bhz Rz Hz a.name hwa.2.2.2.1 V (HZ.both.pool.below hV)
          have hRU := fun (V : World) (hV : Below wz.heap.size wz V) => RUnits.calls r _ Rz Hz a.name V (HZ.both.ref.below hV) hgd.rlen
          have hRF := fun (V : World) (hV : Below wz.heap.size wz V) => RFree.calls r _ Rz Hz a.name V (HZ.both.ref.below hV) hgd
          have HZ2 := Aside0.mk HZ
          have hq := Below.refl wz.heap.size wz
          clear HZ hCH kx4 HS hgd
          generalize (unitsOf Rz a.name).1 = m1 at hU hRU
          generalize (unitsOf Rz a.name).2 = m2 at hU hRU
          generalize (freeOf Rz Hz a.name).1 = m3 at hF hRF
          generalize (freeOf Rz Hz a.name).2 = m4 at hF hRF
          have t1 : (m1 != m1) = false := bne_self_eq_false _
          have t2 : (m2 != m2) = false := bne_self_eq_false _
          have t3 : (m3 != m3) = false := bne_self_eq_false _
          have t4 : (m4 != m4) = false := bne_self_eq_false _
          go_region_held3 (fun V => V.cell? ⟨r, 1, none⟩ = some (.slice E4 Hz.length f7)) (first | exact HSV.out _ hq | exact HSV.out _ (below_drew1 hq) | exact HSV.out _ v1 | exact HSV.out _ v2) (first
            | (go_at_call 14; first | (refine (hLs _ hq).mono ?_; rintro e9 y1 ⟨v9, rfl, hR10, hB10⟩; have v1 := below_go hq hq.size hB10; obtain ⟨A6, k6, e6, hk6, hC6⟩ := Kd.R_reads hR10; rw [List.length_map] at e6 hk6; subst e6; clear hR10) | (refine (hLs _ (below_drew1 hq)).mono ?_; rintro e9 y1 ⟨v9, rfl, hR10, hB10⟩; have v1 := below_go (below_drew1 hq) (below_drew1 hq).size hB10; obtain ⟨A6, k6, e6, hk6, hC6⟩ := Kd.R_reads hR10; rw [List.length_map] at e6 hk6; subst e6; clear hR10))
            | (go_at_call 18; refine (same.calls Hz hlz A6 E4 k6 f7 _ hC6 hk6 (Kd.C_below HCH.out v1) hf7).mono ?_; rintro e10 y2 ⟨rfl, dr⟩; have v2 := below_go v1 v1.size dr.below; clear dr hC6))
          have z2 := HSX.out _ v2
          clear r2 v1 hLs
          go_wp2_with (first
            | (go_at_call 20; refine (hU _ v2).mono ?_; rintro e11 y3 ⟨rfl, b3⟩; have v3 := below_go v2 v2.size b3; have z3 := HSX.out _ v3; clear z2 b3)
            | (go_at_call 23; refine (hRU _ v3).mono ?_; rintro e12 y4 ⟨rfl, b4⟩; have v4 := below_go v3 v3.size b4.below; have z4 := HSX.out _ v4; clear z3 b4)
            | (go_at_call 15; refine (hF _ v4).mono ?_; rintro e13 y5 ⟨rfl, b5⟩; have v5 := below_go v4 v4.size b5; have z5 := HSX.out _ v5; clear z4 b5)
            | (go_at_call 24; refine (hRF _ v5).mono ?_; rintro e14 y6 ⟨rfl, b6⟩; have v6 := below_go v5 v5.size b6.below; clear z5 b6))
          go_roundg (acts.length - (i + 1))
          case measure => omega
          case rel => exact ⟨i + 1, pz, btz, bhz, Rz, Hz, by omega, Nat.le_refl _, rfl, by go_num, by omega, hRz, hHz, HZ2.out.go v6⟩
      · rcases test_not go with ⟨z3, b3⟩ | ⟨z3, b3, z4, b4⟩
        all_goals
          clear go
          go_wp2_with (go_at_call 8; refine (hk _).mono ?_; rintro e6 w6 ⟨rfl, B6⟩)
          go_ret
          exact ⟨rfl, below_go HT.below HT.below.size B6⟩
end Go.Proofs.Ytgepalpcaphbeaa.QPoolPlays
