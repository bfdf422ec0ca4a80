/- The law PoolSafe, walked: for all resources and calls it comes to true. Each theorem names its own conditions. -/
import Derived.Test.YtgepalpcaphbeaaQPoolPlaysPoolSafe
namespace Go.Proofs.Ytgepalpcaphbeaa.QPoolPlays
open Go.RowKit Go.Proofs.Ytgepalpcaphbeaa.PPoolPlays Go.Proofs.YtgepalpcaphbeaaW.PrintWords Go.Proofs.YtgepalpcaphbeaaW.PrintLast Go.Proofs.YtgepalpcaphbeaaW.PrintMore Go.Proofs.Ytgepalpcaphbeaa.MMaps
set_option linter.unusedVariables false
set_option linter.unusedSimpArgs false
set_option maxRecDepth 100000
/-- What is so in each round. -/
structure Keeps (w wr : World) (p bt bh : Nat) (R : List Rs) (H : List Hd) : Prop where
  pool : PoolAt wr p bt bh R H
  below : Below w.heap.size w wr
  safe : Safe R H
theorem test_not {a b : Prop} [Decidable a] [Decidable b] (h : ¬ (a ∧ b)) : (¬ a ∧ decide a = false) ∨ (a ∧ decide a = true ∧ ¬ b ∧ decide b = false) := by
  by_cases ha : a
  · exact .inr ⟨ha, decide_eq_true ha, (fun hb => h ⟨ha, hb⟩), decide_eq_false (fun hb => h ⟨ha, hb⟩)⟩
  · exact .inl ⟨ha, decide_eq_false ha⟩
theorem rdhp_at (L : List Hp) (i : Nat) (h : i < L.length) : rd_T40 L (i : Int) = L[i] := by
  unfold rd_T40
  rw [Int.toNat_natCast]
  simp [List.getD, List.getElem?_eq_getElem h]
set_option maxHeartbeats 32000000 in
theorem safe_walk (A0 : Option Addr) (c0 : Nat) (l : List Rs) (A1 : Option Addr) (c1 : Nat) (acts : List Turn) (w : World) (hl : Kd.C k53 w A0 l.length l) (hlc : l.length ≤ c0) (hlw : ∀ r ∈ l, wfR r) (hll : l.length ≤ 4398046511100) (ha : Kd.C kA w A1 acts.length acts) (hac : acts.length ≤ c1) (haw : ∀ a ∈ acts, wfT a) (hal : acts.length ≤ 4398046511100) :
    Calls Try.prog 3 #[.slice A0 l.length c0, .slice A1 acts.length c1] w fun e w' => e = .returned (.bool true) ∧ Below w.heap.size w w' := by
  have hk := fun (W : World) => known.calls W
  have HA := Aside0.mk ha
  clear ha
  by_cases big : 20 < l.length
  · have b1 : decide ((l.length : Int) > 20) = true := decide_eq_true (by omega)
    have b2 : decide ((20 : Int) < (l.length : Int)) = true := decide_eq_true (by omega)
    clear hl
    go_enter Try.func3, Try.ntmps3
    go_wp2_with (go_at_call 8; refine (hk _).mono ?_; rintro e w1 ⟨rfl, b⟩)
    go_ret
    exact ⟨rfl, b⟩
  · have b1 : decide ((l.length : Int) > 20) = false := decide_eq_false (by omega)
    have b2 : decide ((20 : Int) < (l.length : Int)) = false := decide_eq_false (by omega)
    have hres := res.calls A0 c0 l w hl hlc (by omega)
    clear hl
    have hRl := poolR_len l
    go_enter Try.func3, Try.ntmps3
    go_upto_region 4 with (first | (go_at_call 10; refine hres.mono ?_; rintro e w1 ⟨v, rfl, hR1, hB1⟩; obtain ⟨A2, k2, e2, hk2, hC2⟩ := Kd.R_reads hR1; rw [List.length_map] at e2 hk2; subst e2; clear hR1 hres) | (go_at_call 9; refine (New.of A2 k2 l w1 hC2 hk2 hlw (by omega)).mono ?_; rintro e w2 ⟨p, bt, bh, rfl, hp, hbt, hbh, hP2, hB2⟩; have hB3 := below_go hB1 hB1.size hB2; have hpb := Nat.le_trans hB1.size hp; have hbtb := Nat.le_trans hB1.size hbt; have hbhb := Nat.le_trans hB1.size hbh; clear hC2 hp hbt hbh hB2 hB1))
    have HR0 : Keeps w w2 p bt bh (poolR l) [] := ⟨hP2, hB3, Safe.nil hP2.good⟩
    clear hP2 hB3
    generalize poolR l = R at *
    go_wp2
    go_loopg [6, 7, 8, 9, 10, 11, 12, 13] acts.length (fun gg v6 v7 v8 v9 v10 v11 v12 v13 wr => ∃ (i : Nat) (H : List Hd), i ≤ acts.length ∧ acts.length - i ≤ gg ∧ v6 = .int .i64 i ∧ i ≤ 60 ∧ H.length ≤ 20 * i ∧ Keeps w wr p bt bh R H)
    case atStart => exact ⟨0, [], Nat.zero_le _, by omega, rfl, by omega, Nat.zero_le _, HR0⟩
    case round =>
      clear HR0
      obtain ⟨i, H, hi, hg, rfl, hi60, hHl, hRun⟩ := hrel
      by_cases go : (i : Int) < (acts.length : Int) ∧ (i : Int) < 60
      · obtain ⟨g1, g2⟩ := go
        have b3 : decide ((i : Int) < (acts.length : Int)) = true := decide_eq_true g1
        have b4 : decide ((i : Int) < 60) = true := decide_eq_true g2
        have hlt : i < acts.length := by omega
        obtain ⟨ad, B, cb, e, x0, x1, x2, x3, x4, hcb, hCB⟩ := at_A HA.out i hlt
        cases e
        have hbk := World.block_lt_of_cell? w _ x1
        have hwa := haw _ (List.getElem_mem hlt)
        obtain ⟨a, hA⟩ : ∃ a, acts[i] = a := ⟨_, rfl⟩
        rw [hA] at x0 x1 x2 x3 x4 hcb hCB hwa
        clear hA
        have hqq := hRun.below
        replace x0 := (hqq.cell (p := ad.add (i * 5)) hbk).trans x0
        replace x1 := (hqq.cell (p := ⟨(ad.add (i * 5)).block, (ad.add (i * 5)).off + 1, none⟩) hbk).trans x1
        replace x2 := (hqq.cell (p := ⟨(ad.add (i * 5)).block, (ad.add (i * 5)).off + 2, none⟩) hbk).trans x2
        replace x3 := (hqq.cell (p := ⟨(ad.add (i * 5)).block, (ad.add (i * 5)).off + 3, none⟩) hbk).trans x3
        replace x4 := (hqq.cell (p := ⟨(ad.add (i * 5)).block, (ad.add (i * 5)).off + 4, none⟩) hbk).trans x4
        have hall : a.l.length < 4398046511104 := by have := hwa.2.2.1.1; omega
        have HCB := Aside0.mk hCB
        have hi61 : i + 1 ≤ 60 := by omega
        clear hCB g1 g2
        go_upto_region 10 with (fail)
        obtain ⟨V, hV⟩ : ∃ V, V = wr.alloc (.cells #[.int .i64 a.kind, .int .i64 a.owner, .slice B a.l.length cb, .string a.name, .int .i64 a.n] 31 (0, 0)) := ⟨_, rfl⟩
        have hbV : Below wr.heap.size wr V := by rw [hV]; exact below_alloc (Below.refl _ _) _
        have kb : V.heap[wr.heap.size]? = some (.cells #[.int .i64 a.kind, .int .i64 a.owner, .slice B a.l.length cb, .string a.name, .int .i64 a.n] 31 (0, 0)) := by rw [hV]; exact blk_new _ _
        rw [← hV]
        clear hV x0 x1 x2 x3 x4
        have hPV := hRun.pool.below hbV
        have hqV := below_go hqq hqq.size hbV
        have hS9 := hRun.safe
        have hbw : bh < wr.heap.size := hRun.pool.held.lt
        clear hRun hbV hqq
        have y0 : V.cell? ⟨wr.heap.size, 0, none⟩ = some (.int .i64 a.kind) := blk_cell kb 0
        have y1 : V.cell? ⟨wr.heap.size, 1, none⟩ = some (.int .i64 a.owner) := blk_cell kb 1
        have y2 : V.cell? ⟨wr.heap.size, 2, none⟩ = some (.slice B a.l.length cb) := blk_cell kb 2
        by_cases k5 : a.kind = 5
        · rw [k5] at y0
          have hG := Give.calls p bt bh R H a.owner V hPV
          have hgl : (giveOf H a.owner).length ≤ 20 * (i + 1) := Nat.le_trans (List.length_filter_le _ _) (by omega)
          have HSG := Aside0.mk (hS9.give a.owner)
          generalize giveOf H a.owner = H' at *
          clear kb hwa hcb hall HCB
          go_upto_region 13 with (go_at_call 11; refine hG.mono ?_; rintro e3 w4 ⟨rfl, hP4, hg4⟩; have q4 : Below w.heap.size w w4 := hqV.trans (grown_below hg4 hbhb hqV.size))
          have HZ : Keeps w w4 p bt bh R H' := ⟨hP4, q4, HSG.out⟩
          clear hG hP4 hg4 q4 HSG hPV hqV hS9 y0 y1 y2 k5
          have hLs := List.calls p bt bh R H' w4 HZ.pool
          have HO0 := Aside0.mk (show ∀ x ∈ H'.map toP, x.f1.size ≤ maxLen from fun x hx => by obtain ⟨y, hy, rfl⟩ := List.mem_map.mp hx; exact (HZ.pool.good.hwf y hy).1.2)
          have HO1 := Aside0.mk (fun (x : Hp) (hx : x ∈ H'.map toP) => HZ.safe.one hx)
          have HO2 := Aside0.mk (HZ.safe.two HZ.pool.good.sorted)
          have hML : (H'.map toP).length ≤ 100000 := by rw [List.length_map]; exact HZ.pool.good.hlen
          generalize H'.map toP = M at hLs HO0 HO1 HO2 hML
          go_wp2_with (go_at_call 14; refine hLs.mono ?_; rintro e7 w7 ⟨v7, rfl, r7, b7⟩; obtain ⟨A7, c7, e8, hc7, hC7⟩ := Kd.R_reads r7; subst e8; clear r7)
          have HC7 := Aside0.mk hC7
          have HP7 := Aside0.mk (HZ.pool.below b7)
          have HQ7 := Aside0.mk (below_go HZ.below HZ.below.size b7)
          clear hC7 b7 hLs
          go_loopg [9, 10, 11, 12, 13] M.length (fun gg v9 v10 v11 v12 v13 wr => ∃ k : Nat, k ≤ M.length ∧ M.length - k ≤ gg ∧ v9 = .int .i64 k ∧ Aside0 (Below w7.heap.size w7 wr))
          case atStart => exact ⟨0, Nat.zero_le _, by omega, rfl, ⟨Below.refl _ _⟩⟩
          case round =>
            obtain ⟨k, hk0, hg2, rfl, HQ⟩ := hrel
            by_cases hkl : k < M.length
            · have c2 : decide ((k : Int) < (M.length : Int)) = true := decide_eq_true (by omega)
              have c3 : (0 : Int) ≤ (k : Int) := by omega
              have c4 : (k : Int) < (M.length : Int) := by omega
              obtain ⟨ad7, e, x0, x1, x2, x3⟩ := at_T40 HC7.out (k : Int) c3 c4
              cases e
              have hbk7 := World.block_lt_of_cell? w7 _ x0
              rw [rdhp_at M k hkl, Int.toNat_natCast] at x0 x1 x2 x3
              rw [Int.toNat_natCast] at hbk7
              have hwx := HO0.out M[k] (List.getElem_mem hkl)
              have hone := HO1.out M[k] (List.getElem_mem hkl)
              have HTW := Aside0.mk (fun (j : Nat) (hj : j < M.length) (hne : j ≠ k) => HO2.out j k hj hkl hne)
              obtain ⟨x, hx⟩ : ∃ x, M[k] = x := ⟨_, rfl⟩
              rw [hx] at x0 x1 x2 x3 hwx hone HTW
              clear hx
              replace x0 := (HQ.out.cell (p := ad7.add (k * 4)) hbk7).trans x0
              replace x1 := (HQ.out.cell (p := ⟨(ad7.add (k * 4)).block, (ad7.add (k * 4)).off + 1, none⟩) hbk7).trans x1
              replace x2 := (HQ.out.cell (p := ⟨(ad7.add (k * 4)).block, (ad7.add (k * 4)).off + 2, none⟩) hbk7).trans x2
              replace x3 := (HQ.out.cell (p := ⟨(ad7.add (k * 4)).block, (ad7.add (k * 4)).off + 3, none⟩) hbk7).trans x3
              go_upto_region 18 with (fail)
              obtain ⟨V2, hV2⟩ : ∃ V2, V2 = wr.alloc (.cells #[.int .i64 x.f0, .string x.f1, .int .i64 x.f2, .int .i64 x.f3] 40 (0, 0)) := ⟨_, rfl⟩
              have hbV2 : Below wr.heap.size wr V2 := by rw [hV2]; exact below_alloc (Below.refl _ _) _
              have kb2 : V2.heap[wr.heap.size]? = some (.cells #[.int .i64 x.f0, .string x.f1, .int .i64 x.f2, .int .i64 x.f3] 40 (0, 0)) := by rw [hV2]; exact blk_new _ _
              rw [← hV2]
              clear hV2 x0 x1 x2 x3
              have HQV := Aside0.mk (below_go HQ.out HQ.out.size hbV2)
              have hF := Free.calls p bt bh R H' x.f1 hwx V2 (HP7.out.below HQV.out)
              have y1 : V2.cell? ⟨wr.heap.size, 1, none⟩ = some (.string x.f1) := blk_cell kb2 1
              have HKB2 := Aside0.mk kb2
              have hbig : w7.heap.size ≤ wr.heap.size := HQ.out.size
              clear kb2 hbV2
              generalize hu : (freeOf R H' x.f1).1 = u at hF hone
              generalize hv : (freeOf R H' x.f1).2 = v at hF hone
              clear hu hv
              generalize wr.heap.size = g at *
              rcases hone with ⟨m0, rfl, hu0, h2⟩ | m0
              all_goals
                first
                | (have t0 : (x.f3 == 0) = true := beq_iff_eq.mpr m0
                   have t1 : decide (u < 0) = false := decide_eq_false (by omega)
                   have t2 : decide (x.f2 < 1) = false := decide_eq_false (by omega)
                   clear m0)
                | (have t0 : (x.f3 == 0) = false := beq_eq_false_iff_ne.mpr m0
                   clear m0)
                go_wp2_with (go_at_call 15; refine hF.mono ?_; rintro e9 w9 ⟨rfl, b9⟩; have HK9 := Aside0.mk (blk_below HKB2.out b9); have HQ9 := Aside0.mk (below_go HQV.out HQV.out.size b9); have z3 : w9.cell? ⟨g, 3, none⟩ = some (.int .i64 x.f3) := blk_cell HK9.out 3; have z2 : w9.cell? ⟨g, 2, none⟩ = some (.int .i64 x.f2) := blk_cell HK9.out 2; clear b9 y1 hF)
                clear z2 z3
                go_loopg [13] M.length (fun gg v13 wr => ∃ j : Nat, j ≤ M.length ∧ M.length - j ≤ gg ∧ v13 = .int .i64 j ∧ Aside0 (Below w9.heap.size w9 wr))
                case atStart => exact ⟨0, Nat.zero_le _, by omega, rfl, ⟨Below.refl _ _⟩⟩
                case round =>
                  obtain ⟨j, hj0, hg3, rfl, HQ2⟩ := hrel
                  have kb9 := blk_below HK9.out HQ2.out
                  have z1 : wr.cell? ⟨g, 1, none⟩ = some (.string x.f1) := blk_cell kb9 1
                  have z3 : wr.cell? ⟨g, 3, none⟩ = some (.int .i64 x.f3) := blk_cell kb9 3
                  clear kb9
                  try clear t1 t2 hu0 h2
                  clear t0
                  by_cases hjl : j < M.length
                  · have d2 : decide ((j : Int) < (M.length : Int)) = true := decide_eq_true (by omega)
                    have d3 : (0 : Int) ≤ (j : Int) := by omega
                    have d4 : (j : Int) < (M.length : Int) := by omega
                    obtain ⟨ad8, e, v0, v1, v2, v3⟩ := at_T40 HC7.out (j : Int) d3 d4
                    obtain rfl := Option.some.inj e
                    have hbk8 := World.block_lt_of_cell? w7 _ v0
                    rw [rdhp_at M j hjl, Int.toNat_natCast] at v1
                    rw [Int.toNat_natCast] at hbk8
                    have HTW2 := Aside0.mk (fun (hne : j ≠ k) => HTW.out j hjl hne)
                    obtain ⟨y, hy⟩ : ∃ y, M[j] = y := ⟨_, rfl⟩
                    rw [hy] at v1 HTW2
                    clear hy v0 v2 v3
                    have hqq := below_go HQ9.out HQ9.out.size HQ2.out
                    replace v1 := (hqq.cell (p := ⟨(ad7.add (j * 4)).block, (ad7.add (j * 4)).off + 1, none⟩) hbk8).trans v1
                    clear hqq
                    have cases3 : (x.f3 == 2) = false ∨ ((x.f3 == 2) = true ∧ j = k) ∨ ((x.f3 == 2) = true ∧ j ≠ k ∧ (y.f1.toList == x.f1.toList) = false) := by
                      by_cases m2 : x.f3 = 2
                      · by_cases jk : j = k
                        · exact .inr (.inl ⟨beq_iff_eq.mpr m2, jk⟩)
                        · exact .inr (.inr ⟨beq_iff_eq.mpr m2, jk, HTW2.out jk m2⟩)
                      · exact .inl (beq_eq_false_iff_ne.mpr m2)
                    rcases cases3 with q1 | ⟨q1, rfl⟩ | ⟨q1, q2, q3⟩
                    · go_upto_region 24 with (fail)
                      go_quiet (fail)
                      go_wp2
                      go_roundg (M.length - (j + 1))
                      case measure => omega
                      case rel => exact ⟨j + 1, by omega, Nat.le_refl _, by go_num, ⟨below_go HQ2.out HQ2.out.size (Drawn0.mk ⟨nq, rfl⟩).below⟩⟩
                    · have q4 : ((j : Int) != (j : Int)) = false := bne_self_eq_false _
                      go_upto_region 24 with (fail)
                      go_quiet (fail)
                      go_wp2
                      go_roundg (M.length - (j + 1))
                      case measure => omega
                      case rel => exact ⟨j + 1, by omega, Nat.le_refl _, by go_num, ⟨below_go HQ2.out HQ2.out.size (Drawn0.mk ⟨nq, rfl⟩).below⟩⟩
                    · have q4 : ((j : Int) != (k : Int)) = true := bne_iff_ne.mpr (by omega)
                      clear q2
                      go_upto_region 24 with (fail)
                      go_quiet (fail)
                      go_wp2
                      go_roundg (M.length - (j + 1))
                      case measure => omega
                      case rel => exact ⟨j + 1, by omega, Nat.le_refl _, by go_num, ⟨below_go HQ2.out HQ2.out.size (Drawn0.mk ⟨nq, rfl⟩).below⟩⟩
                  · have d2 : decide ((j : Int) < (M.length : Int)) = false := decide_eq_false (by omega)
                    clear z1 z3
                    go_wp2
                    go_roundg (M.length - (k + 1))
                    case measure => omega
                    case rel => exact ⟨k + 1, by omega, Nat.le_refl _, by go_num, ⟨below_go HQ9.out HQ9.out.size HQ2.out⟩⟩
            · have c2 : decide ((k : Int) < (M.length : Int)) = false := decide_eq_false (by omega)
              go_wp2
              go_roundg (acts.length - (i + 1))
              case measure => omega
              case rel => exact ⟨i + 1, H', by omega, Nat.le_refl _, by go_num, hi61, hgl, HP7.out.below HQ.out, below_go HQ7.out HQ7.out.size HQ.out, HZ.safe⟩
        by_cases k6 : a.kind = 6
        · rw [k6] at y0
          have hG := Give.calls p bt bh R H a.owner V hPV
          have hgl : (giveOf H a.owner).length ≤ 20 * (i + 1) := Nat.le_trans (List.length_filter_le _ _) (by omega)
          have HSG := Aside0.mk (hS9.give a.owner)
          generalize giveOf H a.owner = H' at *
          clear kb hwa hcb hall HCB
          go_upto_region 13 with (go_at_call 11; refine hG.mono ?_; rintro e3 w4 ⟨rfl, hP4, hg4⟩; have q4 : Below w.heap.size w w4 := hqV.trans (grown_below hg4 hbhb hqV.size))
          have HZ : Keeps w w4 p bt bh R H' := ⟨hP4, q4, HSG.out⟩
          clear hG hP4 hg4 q4 HSG hPV hqV hS9 y0 y1 y2 k6 k5
          have hLs := List.calls p bt bh R H' w4 HZ.pool
          have HO0 := Aside0.mk (show ∀ x ∈ H'.map toP, x.f1.size ≤ maxLen from fun x hx => by obtain ⟨y, hy, rfl⟩ := List.mem_map.mp hx; exact (HZ.pool.good.hwf y hy).1.2)
          have HO1 := Aside0.mk (fun (x : Hp) (hx : x ∈ H'.map toP) => HZ.safe.one hx)
          have HO2 := Aside0.mk (HZ.safe.two HZ.pool.good.sorted)
          have hML : (H'.map toP).length ≤ 100000 := by rw [List.length_map]; exact HZ.pool.good.hlen
          generalize H'.map toP = M at hLs HO0 HO1 HO2 hML
          go_wp2_with (go_at_call 14; refine hLs.mono ?_; rintro e7 w7 ⟨v7, rfl, r7, b7⟩; obtain ⟨A7, c7, e8, hc7, hC7⟩ := Kd.R_reads r7; subst e8; clear r7)
          have HC7 := Aside0.mk hC7
          have HP7 := Aside0.mk (HZ.pool.below b7)
          have HQ7 := Aside0.mk (below_go HZ.below HZ.below.size b7)
          clear hC7 b7 hLs
          go_loopg [9, 10, 11, 12, 13] M.length (fun gg v9 v10 v11 v12 v13 wr => ∃ k : Nat, k ≤ M.length ∧ M.length - k ≤ gg ∧ v9 = .int .i64 k ∧ Aside0 (Below w7.heap.size w7 wr))
          case atStart => exact ⟨0, Nat.zero_le _, by omega, rfl, ⟨Below.refl _ _⟩⟩
          case round =>
            obtain ⟨k, hk0, hg2, rfl, HQ⟩ := hrel
            by_cases hkl : k < M.length
            · have c2 : decide ((k : Int) < (M.length : Int)) = true := decide_eq_true (by omega)
              have c3 : (0 : Int) ≤ (k : Int) := by omega
              have c4 : (k : Int) < (M.length : Int) := by omega
              obtain ⟨ad7, e, x0, x1, x2, x3⟩ := at_T40 HC7.out (k : Int) c3 c4
              cases e
              have hbk7 := World.block_lt_of_cell? w7 _ x0
              rw [rdhp_at M k hkl, Int.toNat_natCast] at x0 x1 x2 x3
              rw [Int.toNat_natCast] at hbk7
              have hwx := HO0.out M[k] (List.getElem_mem hkl)
              have hone := HO1.out M[k] (List.getElem_mem hkl)
              have HTW := Aside0.mk (fun (j : Nat) (hj : j < M.length) (hne : j ≠ k) => HO2.out j k hj hkl hne)
              obtain ⟨x, hx⟩ : ∃ x, M[k] = x := ⟨_, rfl⟩
              rw [hx] at x0 x1 x2 x3 hwx hone HTW
              clear hx
              replace x0 := (HQ.out.cell (p := ad7.add (k * 4)) hbk7).trans x0
              replace x1 := (HQ.out.cell (p := ⟨(ad7.add (k * 4)).block, (ad7.add (k * 4)).off + 1, none⟩) hbk7).trans x1
              replace x2 := (HQ.out.cell (p := ⟨(ad7.add (k * 4)).block, (ad7.add (k * 4)).off + 2, none⟩) hbk7).trans x2
              replace x3 := (HQ.out.cell (p := ⟨(ad7.add (k * 4)).block, (ad7.add (k * 4)).off + 3, none⟩) hbk7).trans x3
              go_upto_region 18 with (fail)
              obtain ⟨V2, hV2⟩ : ∃ V2, V2 = wr.alloc (.cells #[.int .i64 x.f0, .string x.f1, .int .i64 x.f2, .int .i64 x.f3] 40 (0, 0)) := ⟨_, rfl⟩
              have hbV2 : Below wr.heap.size wr V2 := by rw [hV2]; exact below_alloc (Below.refl _ _) _
              have kb2 : V2.heap[wr.heap.size]? = some (.cells #[.int .i64 x.f0, .string x.f1, .int .i64 x.f2, .int .i64 x.f3] 40 (0, 0)) := by rw [hV2]; exact blk_new _ _
              rw [← hV2]
              clear hV2 x0 x1 x2 x3
              have HQV := Aside0.mk (below_go HQ.out HQ.out.size hbV2)
              have hF := Free.calls p bt bh R H' x.f1 hwx V2 (HP7.out.below HQV.out)
              have y1 : V2.cell? ⟨wr.heap.size, 1, none⟩ = some (.string x.f1) := blk_cell kb2 1
              have HKB2 := Aside0.mk kb2
              have hbig : w7.heap.size ≤ wr.heap.size := HQ.out.size
              clear kb2 hbV2
              generalize hu : (freeOf R H' x.f1).1 = u at hF hone
              generalize hv : (freeOf R H' x.f1).2 = v at hF hone
              clear hu hv
              generalize wr.heap.size = g at *
              rcases hone with ⟨m0, rfl, hu0, h2⟩ | m0
              all_goals
                first
                | (have t0 : (x.f3 == 0) = true := beq_iff_eq.mpr m0
                   have t1 : decide (u < 0) = false := decide_eq_false (by omega)
                   have t2 : decide (x.f2 < 1) = false := decide_eq_false (by omega)
                   clear m0)
                | (have t0 : (x.f3 == 0) = false := beq_eq_false_iff_ne.mpr m0
                   clear m0)
                go_wp2_with (go_at_call 15; refine hF.mono ?_; rintro e9 w9 ⟨rfl, b9⟩; have HK9 := Aside0.mk (blk_below HKB2.out b9); have HQ9 := Aside0.mk (below_go HQV.out HQV.out.size b9); have z3 : w9.cell? ⟨g, 3, none⟩ = some (.int .i64 x.f3) := blk_cell HK9.out 3; have z2 : w9.cell? ⟨g, 2, none⟩ = some (.int .i64 x.f2) := blk_cell HK9.out 2; clear b9 y1 hF)
                clear z2 z3
                go_loopg [13] M.length (fun gg v13 wr => ∃ j : Nat, j ≤ M.length ∧ M.length - j ≤ gg ∧ v13 = .int .i64 j ∧ Aside0 (Below w9.heap.size w9 wr))
                case atStart => exact ⟨0, Nat.zero_le _, by omega, rfl, ⟨Below.refl _ _⟩⟩
                case round =>
                  obtain ⟨j, hj0, hg3, rfl, HQ2⟩ := hrel
                  have kb9 := blk_below HK9.out HQ2.out
                  have z1 : wr.cell? ⟨g, 1, none⟩ = some (.string x.f1) := blk_cell kb9 1
                  have z3 : wr.cell? ⟨g, 3, none⟩ = some (.int .i64 x.f3) := blk_cell kb9 3
                  clear kb9
                  try clear t1 t2 hu0 h2
                  clear t0
                  by_cases hjl : j < M.length
                  · have d2 : decide ((j : Int) < (M.length : Int)) = true := decide_eq_true (by omega)
                    have d3 : (0 : Int) ≤ (j : Int) := by omega
                    have d4 : (j : Int) < (M.length : Int) := by omega
                    obtain ⟨ad8, e, v0, v1, v2, v3⟩ := at_T40 HC7.out (j : Int) d3 d4
                    obtain rfl := Option.some.inj e
                    have hbk8 := World.block_lt_of_cell? w7 _ v0
                    rw [rdhp_at M j hjl, Int.toNat_natCast] at v1
                    rw [Int.toNat_natCast] at hbk8
                    have HTW2 := Aside0.mk (fun (hne : j ≠ k) => HTW.out j hjl hne)
                    obtain ⟨y, hy⟩ : ∃ y, M[j] = y := ⟨_, rfl⟩
                    rw [hy] at v1 HTW2
                    clear hy v0 v2 v3
                    have hqq := below_go HQ9.out HQ9.out.size HQ2.out
                    replace v1 := (hqq.cell (p := ⟨(ad7.add (j * 4)).block, (ad7.add (j * 4)).off + 1, none⟩) hbk8).trans v1
                    clear hqq
                    have cases3 : (x.f3 == 2) = false ∨ ((x.f3 == 2) = true ∧ j = k) ∨ ((x.f3 == 2) = true ∧ j ≠ k ∧ (y.f1.toList == x.f1.toList) = false) := by
                      by_cases m2 : x.f3 = 2
                      · by_cases jk : j = k
                        · exact .inr (.inl ⟨beq_iff_eq.mpr m2, jk⟩)
                        · exact .inr (.inr ⟨beq_iff_eq.mpr m2, jk, HTW2.out jk m2⟩)
                      · exact .inl (beq_eq_false_iff_ne.mpr m2)
                    rcases cases3 with q1 | ⟨q1, rfl⟩ | ⟨q1, q2, q3⟩
                    · go_upto_region 24 with (fail)
                      go_quiet (fail)
                      go_wp2
                      go_roundg (M.length - (j + 1))
                      case measure => omega
                      case rel => exact ⟨j + 1, by omega, Nat.le_refl _, by go_num, ⟨below_go HQ2.out HQ2.out.size (Drawn0.mk ⟨nq, rfl⟩).below⟩⟩
                    · have q4 : ((j : Int) != (j : Int)) = false := bne_self_eq_false _
                      go_upto_region 24 with (fail)
                      go_quiet (fail)
                      go_wp2
                      go_roundg (M.length - (j + 1))
                      case measure => omega
                      case rel => exact ⟨j + 1, by omega, Nat.le_refl _, by go_num, ⟨below_go HQ2.out HQ2.out.size (Drawn0.mk ⟨nq, rfl⟩).below⟩⟩
                    · have q4 : ((j : Int) != (k : Int)) = true := bne_iff_ne.mpr (by omega)
                      clear q2
                      go_upto_region 24 with (fail)
                      go_quiet (fail)
                      go_wp2
                      go_roundg (M.length - (j + 1))
                      case measure => omega
                      case rel => exact ⟨j + 1, by omega, Nat.le_refl _, by go_num, ⟨below_go HQ2.out HQ2.out.size (Drawn0.mk ⟨nq, rfl⟩).below⟩⟩
                  · have d2 : decide ((j : Int) < (M.length : Int)) = false := decide_eq_false (by omega)
                    clear z1 z3
                    go_wp2
                    go_roundg (M.length - (k + 1))
                    case measure => omega
                    case rel => exact ⟨k + 1, by omega, Nat.le_refl _, by go_num, ⟨below_go HQ9.out HQ9.out.size HQ2.out⟩⟩
            · have c2 : decide ((k : Int) < (M.length : Int)) = false := decide_eq_false (by omega)
              go_wp2
              go_roundg (acts.length - (i + 1))
              case measure => omega
              case rel => exact ⟨i + 1, H', by omega, Nat.le_refl _, by go_num, hi61, hgl, HP7.out.below HQ.out, below_go HQ7.out HQ7.out.size HQ.out, HZ.safe⟩
        have n5 : (a.kind == 5) = false := beq_eq_false_iff_ne.mpr k5
        have n6 : (a.kind == 6) = false := beq_eq_false_iff_ne.mpr k6
        have HS : Aside0 (∀ W : World, Below V.heap.size V W → W.cell? ⟨wr.heap.size, 1, none⟩ = some (.int .i64 a.owner) ∧ W.cell? ⟨wr.heap.size, 2, none⟩ = some (.slice B a.l.length cb)) := ⟨fun W hW => ⟨blk_cell (blk_below kb hW) 1, blk_cell (blk_below kb hW) 2⟩⟩
        have hN := fun (W : World) (hW : Below V.heap.size V W) => needs.calls B cb a.l W (Kd.C_below HCB.out (below_go hqV hqV.size hW)) hcb hall
        have hT := fun (W : World) (A : Option Addr) (c : Nat) (hP : PoolAt W p bt bh R H) hC hc => Take.of p bt bh R H a.owner A c a.l W hP hC hc hwa.2.2.1.2 hwa.2.1 hall (by omega)
        have hq := Below.refl V.heap.size V
        go_upto_region 12 with (fail)
        go_region_held3 (fun W => W.cell? ⟨wr.heap.size, 1, none⟩ = some (.int .i64 a.owner) ∧ W.cell? ⟨wr.heap.size, 2, none⟩ = some (.slice B a.l.length cb)) (first | exact HS.out _ hq | exact HS.out _ (below_drew1 hq) | exact HS.out _ q3 | exact ⟨blk_cell kb4 1, blk_cell kb4 2⟩) (first | (go_at_call 13; first | (refine (hN _ hq).mono ?_; rintro e3 w3 ⟨v3, rfl, hR3, hB3⟩; have q3 := below_go hq hq.size hB3; have hP3 := hPV.below hB3; obtain ⟨A3, k3, e4, hk3, hC3⟩ := Kd.R_reads hR3; rw [List.length_map] at e4 hk3; subst e4; clear hR3) | (refine (hN _ (below_drew1 hq)).mono ?_; rintro e3 w3 ⟨v3, rfl, hR3, hB3⟩; have q3 := below_go (below_drew1 hq) (below_drew1 hq).size hB3; have hP3 := (hPV.below (below_drew1 (Below.refl _ _))).below hB3; obtain ⟨A3, k3, e4, hk3, hC3⟩ := Kd.R_reads hR3; rw [List.length_map] at e4 hk3; subst e4; clear hR3)) | (go_at_call 12; refine (hT _ A3 k3 hP3 hC3 hk3).mono ?_; rintro e5 w4 ⟨rfl, hP4, hg4⟩; have kb4 : w4.heap[wr.heap.size]? = some (.cells #[.int .i64 a.kind, .int .i64 a.owner, .slice B a.l.length cb, .string a.name, .int .i64 a.n] 31 (0, 0)) := (hg4.block _ (blk_lt (blk_below kb q3)) (by simp; omega)).trans (blk_below kb q3); have q4 : Below w.heap.size w w4 := (below_go hqV hqV.size q3).trans (grown_below hg4 hbhb (below_go hqV hqV.size q3).size)))
        have hTL := takeOf_len R H a.owner (ndL a.l)
        have hgl : (takeOf R H a.owner (ndL a.l)).length ≤ 20 * (i + 1) := by omega
        have HSG := Aside0.mk (hS9.takeOf a.owner (ndL a.l))
        clear hTL
        generalize takeOf R H a.owner (ndL a.l) = H' at *
        have HZ : Keeps w w4 p bt bh R H' := ⟨hP4, q4, HSG.out⟩
        clear hP4 hg4 q4 HSG hPV hqV hS9 y0 y1 y2 hN hT hq q3 hP3 hC3 hk3 kb4 kb hB3 HS hwa hcb hall HCB
        have hLs := List.calls p bt bh R H' w4 HZ.pool
        have HO0 := Aside0.mk (show ∀ x ∈ H'.map toP, x.f1.size ≤ maxLen from fun x hx => by obtain ⟨y, hy, rfl⟩ := List.mem_map.mp hx; exact (HZ.pool.good.hwf y hy).1.2)
        have HO1 := Aside0.mk (fun (x : Hp) (hx : x ∈ H'.map toP) => HZ.safe.one hx)
        have HO2 := Aside0.mk (HZ.safe.two HZ.pool.good.sorted)
        have hML : (H'.map toP).length ≤ 100000 := by rw [List.length_map]; exact HZ.pool.good.hlen
        generalize H'.map toP = M at hLs HO0 HO1 HO2 hML
        go_wp2_with (go_at_call 14; refine hLs.mono ?_; rintro e7 w7 ⟨v7, rfl, r7, b7⟩; obtain ⟨A7, c7, e8, hc7, hC7⟩ := Kd.R_reads r7; subst e8; clear r7)
        have HC7 := Aside0.mk hC7
        have HP7 := Aside0.mk (HZ.pool.below b7)
        have HQ7 := Aside0.mk (below_go HZ.below HZ.below.size b7)
        clear hC7 b7 hLs
        go_loopg [9, 10, 11, 12, 13] M.length (fun gg v9 v10 v11 v12 v13 wr => ∃ k : Nat, k ≤ M.length ∧ M.length - k ≤ gg ∧ v9 = .int .i64 k ∧ Aside0 (Below w7.heap.size w7 wr))
        case atStart => exact ⟨0, Nat.zero_le _, by omega, rfl, ⟨Below.refl _ _⟩⟩
        case round =>
          obtain ⟨k, hk0, hg2, rfl, HQ⟩ := hrel
          by_cases hkl : k < M.length
          · have c2 : decide ((k : Int) < (M.length : Int)) = true := decide_eq_true (by omega)
            have c3 : (0 : Int) ≤ (k : Int) := by omega
            have c4 : (k : Int) < (M.length : Int) := by omega
            obtain ⟨ad7, e, x0, x1, x2, x3⟩ := at_T40 HC7.out (k : Int) c3 c4
            cases e
            have hbk7 := World.block_lt_of_cell? w7 _ x0
            rw [rdhp_at M k hkl, Int.toNat_natCast] at x0 x1 x2 x3
            rw [Int.toNat_natCast] at hbk7
            have hwx := HO0.out M[k] (List.getElem_mem hkl)
            have hone := HO1.out M[k] (List.getElem_mem hkl)
            have HTW := Aside0.mk (fun (j : Nat) (hj : j < M.length) (hne : j ≠ k) => HO2.out j k hj hkl hne)
            obtain ⟨x, hx⟩ : ∃ x, M[k] = x := ⟨_, rfl⟩
            rw [hx] at x0 x1 x2 x3 hwx hone HTW
            clear hx
            replace x0 := (HQ.out.cell (p := ad7.add (k * 4)) hbk7).trans x0
            replace x1 := (HQ.out.cell (p := ⟨(ad7.add (k * 4)).block, (ad7.add (k * 4)).off + 1, none⟩) hbk7).trans x1
            replace x2 := (HQ.out.cell (p := ⟨(ad7.add (k * 4)).block, (ad7.add (k * 4)).off + 2, none⟩) hbk7).trans x2
            replace x3 := (HQ.out.cell (p := ⟨(ad7.add (k * 4)).block, (ad7.add (k * 4)).off + 3, none⟩) hbk7).trans x3
            go_upto_region 18 with (fail)
            obtain ⟨V2, hV2⟩ : ∃ V2, V2 = wr.alloc (.cells #[.int .i64 x.f0, .string x.f1, .int .i64 x.f2, .int .i64 x.f3] 40 (0, 0)) := ⟨_, rfl⟩
            have hbV2 : Below wr.heap.size wr V2 := by rw [hV2]; exact below_alloc (Below.refl _ _) _
            have kb2 : V2.heap[wr.heap.size]? = some (.cells #[.int .i64 x.f0, .string x.f1, .int .i64 x.f2, .int .i64 x.f3] 40 (0, 0)) := by rw [hV2]; exact blk_new _ _
            rw [← hV2]
            clear hV2 x0 x1 x2 x3
            have HQV := Aside0.mk (below_go HQ.out HQ.out.size hbV2)
            have hF := Free.calls p bt bh R H' x.f1 hwx V2 (HP7.out.below HQV.out)
            have y1 : V2.cell? ⟨wr.heap.size, 1, none⟩ = some (.string x.f1) := blk_cell kb2 1
            have HKB2 := Aside0.mk kb2
            have hbig : w7.heap.size ≤ wr.heap.size := HQ.out.size
            clear kb2 hbV2
            generalize hu : (freeOf R H' x.f1).1 = u at hF hone
            generalize hv : (freeOf R H' x.f1).2 = v at hF hone
            clear hu hv
            generalize wr.heap.size = g at *
            rcases hone with ⟨m0, rfl, hu0, h2⟩ | m0
            all_goals
              first
              | (have t0 : (x.f3 == 0) = true := beq_iff_eq.mpr m0
                 have t1 : decide (u < 0) = false := decide_eq_false (by omega)
                 have t2 : decide (x.f2 < 1) = false := decide_eq_false (by omega)
                 clear m0)
              | (have t0 : (x.f3 == 0) = false := beq_eq_false_iff_ne.mpr m0
                 clear m0)
              go_wp2_with (go_at_call 15; refine hF.mono ?_; rintro e9 w9 ⟨rfl, b9⟩; have HK9 := Aside0.mk (blk_below HKB2.out b9); have HQ9 := Aside0.mk (below_go HQV.out HQV.out.size b9); have z3 : w9.cell? ⟨g, 3, none⟩ = some (.int .i64 x.f3) := blk_cell HK9.out 3; have z2 : w9.cell? ⟨g, 2, none⟩ = some (.int .i64 x.f2) := blk_cell HK9.out 2; clear b9 y1 hF)
              clear z2 z3
              go_loopg [13] M.length (fun gg v13 wr => ∃ j : Nat, j ≤ M.length ∧ M.length - j ≤ gg ∧ v13 = .int .i64 j ∧ Aside0 (Below w9.heap.size w9 wr))
              case atStart => exact ⟨0, Nat.zero_le _, by omega, rfl, ⟨Below.refl _ _⟩⟩
              case round =>
                obtain ⟨j, hj0, hg3, rfl, HQ2⟩ := hrel
                have kb9 := blk_below HK9.out HQ2.out
                have z1 : wr.cell? ⟨g, 1, none⟩ = some (.string x.f1) := blk_cell kb9 1
                have z3 : wr.cell? ⟨g, 3, none⟩ = some (.int .i64 x.f3) := blk_cell kb9 3
                clear kb9
                try clear t1 t2 hu0 h2
                clear t0
                by_cases hjl : j < M.length
                · have d2 : decide ((j : Int) < (M.length : Int)) = true := decide_eq_true (by omega)
                  have d3 : (0 : Int) ≤ (j : Int) := by omega
                  have d4 : (j : Int) < (M.length : Int) := by omega
                  obtain ⟨ad8, e, v0, v1, v2, v3⟩ := at_T40 HC7.out (j : Int) d3 d4
                  obtain rfl := Option.some.inj e
                  have hbk8 := World.block_lt_of_cell? w7 _ v0
                  rw [rdhp_at M j hjl, Int.toNat_natCast] at v1
                  rw [Int.toNat_natCast] at hbk8
                  have HTW2 := Aside0.mk (fun (hne : j ≠ k) => HTW.out j hjl hne)
                  obtain ⟨y, hy⟩ : ∃ y, M[j] = y := ⟨_, rfl⟩
                  rw [hy] at v1 HTW2
                  clear hy v0 v2 v3
                  have hqq := below_go HQ9.out HQ9.out.size HQ2.out
                  replace v1 := (hqq.cell (p := ⟨(ad7.add (j * 4)).block, (ad7.add (j * 4)).off + 1, none⟩) hbk8).trans v1
                  clear hqq
                  have cases3 : (x.f3 == 2) = false ∨ ((x.f3 == 2) = true ∧ j = k) ∨ ((x.f3 == 2) = true ∧ j ≠ k ∧ (y.f1.toList == x.f1.toList) = false) := by
                    by_cases m2 : x.f3 = 2
                    · by_cases jk : j = k
                      · exact .inr (.inl ⟨beq_iff_eq.mpr m2, jk⟩)
                      · exact .inr (.inr ⟨beq_iff_eq.mpr m2, jk, HTW2.out jk m2⟩)
                    · exact .inl (beq_eq_false_iff_ne.mpr m2)
                  rcases cases3 with q1 | ⟨q1, rfl⟩ | ⟨q1, q2, q3⟩
                  · go_upto_region 24 with (fail)
                    go_quiet (fail)
                    go_wp2
                    go_roundg (M.length - (j + 1))
                    case measure => omega
                    case rel => exact ⟨j + 1, by omega, Nat.le_refl _, by go_num, ⟨below_go HQ2.out HQ2.out.size (Drawn0.mk ⟨nq, rfl⟩).below⟩⟩
                  · have q4 : ((j : Int) != (j : Int)) = false := bne_self_eq_false _
                    go_upto_region 24 with (fail)
                    go_quiet (fail)
                    go_wp2
                    go_roundg (M.length - (j + 1))
                    case measure => omega
                    case rel => exact ⟨j + 1, by omega, Nat.le_refl _, by go_num, ⟨below_go HQ2.out HQ2.out.size (Drawn0.mk ⟨nq, rfl⟩).below⟩⟩
                  · have q4 : ((j : Int) != (k : Int)) = true := bne_iff_ne.mpr (by omega)
                    clear q2
                    go_upto_region 24 with (fail)
                    go_quiet (fail)
                    go_wp2
                    go_roundg (M.length - (j + 1))
                    case measure => omega
                    case rel => exact ⟨j + 1, by omega, Nat.le_refl _, by go_num, ⟨below_go HQ2.out HQ2.out.size (Drawn0.mk ⟨nq, rfl⟩).below⟩⟩
                · have d2 : decide ((j : Int) < (M.length : Int)) = false := decide_eq_false (by omega)
                  clear z1 z3
                  go_wp2
                  go_roundg (M.length - (k + 1))
                  case measure => omega
                  case rel => exact ⟨k + 1, by omega, Nat.le_refl _, by go_num, ⟨below_go HQ9.out HQ9.out.size HQ2.out⟩⟩
          · have c2 : decide ((k : Int) < (M.length : Int)) = false := decide_eq_false (by omega)
            go_wp2
            go_roundg (acts.length - (i + 1))
            case measure => omega
            case rel => exact ⟨i + 1, H', by omega, Nat.le_refl _, by go_num, hi61, hgl, HP7.out.below HQ.out, below_go HQ7.out HQ7.out.size HQ.out, HZ.safe⟩
      · have hrunP := hRun.below
        clear hRun
        rcases test_not go with ⟨z3, b3⟩ | ⟨z3, b3, z4, b4⟩
        all_goals
          clear go
          go_wp2_with (go_at_call 8; refine (hk _).mono ?_; rintro e9 w9 ⟨rfl, b9⟩)
          go_ret
          exact ⟨rfl, below_go hrunP hrunP.size b9⟩
end Go.Proofs.Ytgepalpcaphbeaa.QPoolPlays
