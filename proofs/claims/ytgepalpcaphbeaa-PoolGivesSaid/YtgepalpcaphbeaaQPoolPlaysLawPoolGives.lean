/- The law PoolGives, walked: for all resources and calls it comes to true. Each theorem names its own conditions. -/
import Derived.Test.YtgepalpcaphbeaaQPoolPlaysPoolLaw
namespace Go.Proofs.Ytgepalpcaphbeaa.QPoolPlays
open Go.RowKit Go.Proofs.Ytgepalpcaphbeaa.PPoolPlays Go.Proofs.YtgepalpcaphbeaaW.PrintWords Go.Proofs.YtgepalpcaphbeaaW.PrintLast Go.Proofs.YtgepalpcaphbeaaW.PrintMore Go.Proofs.Ytgepalpcaphbeaa.MMaps
set_option linter.unusedVariables false
set_option linter.unusedSimpArgs false
set_option maxRecDepth 100000
/-- What is so in each round. -/
structure Runs (w wr : World) (p bt bh : Nat) (R : List Rs) (H : List Hd) : Prop where
  pool : PoolAt wr p bt bh R H
  below : Below w.heap.size w wr
theorem giveOf_mem {H : List Hd} {o : Int} {x : Hd} (h : x ∈ giveOf H o) : x ∈ H ∧ x.f0 ≠ o := by
  obtain ⟨h1, h2⟩ := List.mem_filter.mp h
  exact ⟨h1, by simpa using h2⟩
theorem test_not {a b : Prop} [Decidable a] [Decidable b] (h : ¬ (a ∧ b)) : (¬ a ∧ decide a = false) ∨ (a ∧ decide a = true ∧ ¬ b ∧ decide b = false) := by
  by_cases ha : a
  · exact .inr ⟨ha, decide_eq_true ha, (fun hb => h ⟨ha, hb⟩), decide_eq_false (fun hb => h ⟨ha, hb⟩)⟩
  · exact .inl ⟨ha, decide_eq_false ha⟩
set_option maxHeartbeats 16000000 in
theorem gives_walk (A0 : Option Addr) (c0 : Nat) (l : List Rs) (A1 : Option Addr) (c1 : Nat) (acts : List Turn) (w : World) (hl : Kd.C k53 w A0 l.length l) (hlc : l.length ≤ c0) (hlw : ∀ r ∈ l, wfR r) (hll : l.length ≤ 4398046511100) (ha : Kd.C kA w A1 acts.length acts) (hac : acts.length ≤ c1) (haw : ∀ a ∈ acts, wfT a) (hal : acts.length ≤ 4398046511100) :
    Calls Try.prog 5 #[.slice A0 l.length c0, .slice A1 acts.length c1] w fun e w' => e = .returned (.bool true) ∧ Below w.heap.size w w' := by
  have hk := fun (W : World) => known.calls W
  have HL := Aside0.mk hl
  have HA := Aside0.mk ha
  clear ha
  by_cases big : 20 < l.length
  · have b1 : decide ((l.length : Int) > 20) = true := decide_eq_true (by omega)
    have b2 : decide ((20 : Int) < (l.length : Int)) = true := decide_eq_true (by omega)
    clear hl
    go_enter Try.func5, Try.ntmps5
    go_wp2_with (go_at_call 8; refine (hk _).mono ?_; rintro e w1 ⟨rfl, b⟩)
    go_ret
    exact ⟨rfl, b⟩
  · have b1 : decide ((l.length : Int) > 20) = false := decide_eq_false (by omega)
    have b2 : decide ((20 : Int) < (l.length : Int)) = false := decide_eq_false (by omega)
    have hres := res.calls A0 c0 l w hl hlc (by omega)
    clear hl
    have hRl := poolR_len l
    go_enter Try.func5, Try.ntmps5
    go_upto_region 4 with (first | (go_at_call 10; refine hres.mono ?_; rintro e w1 ⟨v, rfl, hR1, hB1⟩; obtain ⟨A2, k2, e2, hk2, hC2⟩ := Kd.R_reads hR1; rw [List.length_map] at e2 hk2; subst e2; clear hR1 hres) | (go_at_call 9; refine (New.of A2 k2 l w1 hC2 hk2 hlw (by omega)).mono ?_; rintro e w2 ⟨p, bt, bh, rfl, hp, hbt, hbh, hP2, hB2⟩; have hB3 := below_go hB1 hB1.size hB2; have hpb := Nat.le_trans hB1.size hp; have hbtb := Nat.le_trans hB1.size hbt; have hbhb := Nat.le_trans hB1.size hbh; clear hC2 hp hbt hbh hB2 hB1))
    have HR0 : Runs w w2 p bt bh (poolR l) [] := ⟨hP2, hB3⟩
    clear hP2 hB3
    generalize poolR l = R at *
    go_wp2
    go_loopg [6] acts.length (fun gg v6 wr => ∃ (i : Nat) (H : List Hd), i ≤ acts.length ∧ acts.length - i ≤ gg ∧ v6 = .int .i64 i ∧ i ≤ 60 ∧ H.length ≤ 20 * i ∧ Runs w wr p bt bh R H ∧ Aside0 (∀ h ∈ H, ∃ j, ∃ hj : j < acts.length, j < i ∧ acts[j].owner = h.f0))
    case atStart => exact ⟨0, [], Nat.zero_le _, by omega, rfl, by omega, Nat.zero_le _, HR0, ⟨fun h hh => by cases hh⟩⟩
    case round =>
      clear HR0
      obtain ⟨i, H, hi, hg, rfl, hi60, hHl, hRun, HO⟩ := hrel
      by_cases go : (i : Int) < (acts.length : Int) ∧ (i : Int) < 60
      · obtain ⟨g1, g2⟩ := go
        have b3 : decide ((i : Int) < (acts.length : Int)) = true := decide_eq_true g1
        have b4 : decide ((i : Int) < 60) = true := decide_eq_true g2
        have hlt : i < acts.length := by omega
        obtain ⟨ad, B, cb, e, x0, x1, x2, x3, x4, hcb, hCB⟩ := at_A HA.out i hlt
        cases e
        have hbk := World.block_lt_of_cell? w _ x1
        have hwa := haw _ (List.getElem_mem hlt)
        have HON := Aside0.mk (show ∀ h : Hd, h.f0 = acts[i].owner → ∃ j, ∃ hj : j < acts.length, j < i + 1 ∧ acts[j].owner = h.f0 from fun h e => ⟨i, hlt, by omega, e.symm⟩)
        obtain ⟨a, hA⟩ : ∃ a, acts[i] = a := ⟨_, rfl⟩
        rw [hA] at x1 x2 hcb hCB hwa HON
        clear hA x0 x3 x4
        have HS : Aside0 (∀ V : World, Below w.heap.size w V → V.cell? ⟨(ad.add (i * 5)).block, (ad.add (i * 5)).off + 1, none⟩ = some (.int .i64 a.owner) ∧ V.cell? ⟨(ad.add (i * 5)).block, (ad.add (i * 5)).off + 2, none⟩ = some (.slice B a.l.length cb)) := ⟨fun V hV => ⟨(hV.cell hbk).trans x1, (hV.cell (p := ⟨(ad.add (i * 5)).block, (ad.add (i * 5)).off + 2, none⟩) hbk).trans x2⟩⟩
        have hall : a.l.length < 4398046511104 := by have := hwa.2.2.1.1; omega
        have hN := fun (V : World) (hV : Below w.heap.size w V) => needs.calls B cb a.l V (Kd.C_below hCB hV) hcb hall
        have hT := fun (V : World) (A : Option Addr) (c : Nat) (hP : PoolAt V p bt bh R H) hC hc => Take.of p bt bh R H a.owner A c a.l V hP hC hc hwa.2.2.1.2 hwa.2.1 hall (by omega)
        have hq := hRun.below
        obtain ⟨y1, y2⟩ := HS.out wr hq
        clear x1 x2 hCB
        go_upto_region 9 with (fail)
        go_region_held3 (fun V => V.cell? ⟨(ad.add (i * 5)).block, (ad.add (i * 5)).off + 1, none⟩ = some (.int .i64 a.owner) ∧ V.cell? ⟨(ad.add (i * 5)).block, (ad.add (i * 5)).off + 2, none⟩ = some (.slice B a.l.length cb)) (first | exact HS.out _ hq | exact HS.out _ (below_drew1 hq) | exact HS.out _ q3 | exact HS.out _ q4) (first | (go_at_call 13; first | (refine (hN _ hq).mono ?_; rintro e3 w3 ⟨v3, rfl, hR3, hB3⟩; have q3 := below_go hq hq.size hB3; have hP3 := hRun.pool.below hB3; obtain ⟨A3, k3, e4, hk3, hC3⟩ := Kd.R_reads hR3; rw [List.length_map] at e4 hk3; subst e4; clear hR3) | (refine (hN _ (below_drew1 hq)).mono ?_; rintro e3 w3 ⟨v3, rfl, hR3, hB3⟩; have q3 := below_go (below_drew1 hq) (below_drew1 hq).size hB3; have hP3 := (hRun.pool.below (below_drew1 (Below.refl _ _))).below hB3; obtain ⟨A3, k3, e4, hk3, hC3⟩ := Kd.R_reads hR3; rw [List.length_map] at e4 hk3; subst e4; clear hR3)) | (go_at_call 12; refine (hT _ A3 k3 hP3 hC3 hk3).mono ?_; rintro e5 w4 ⟨rfl, hP4, hg4⟩; have q4 : Below w.heap.size w w4 := q3.trans (grown_below hg4 hbhb q3.size)))
        have hTL := takeOf_len R H a.owner (ndL a.l)
        have HM9 := Aside0.mk (fun (x : Hd) (hx : x ∈ takeOf R H a.owner (ndL a.l)) => takeOf_mem hx)
        generalize takeOf R H a.owner (ndL a.l) = H' at *
        go_wp2
        go_roundg (acts.length - (i + 1))
        case measure => omega
        case rel =>
          refine ⟨i + 1, H', by omega, Nat.le_refl _, by go_num, by omega, by omega, ⟨hP4, q4⟩, ⟨fun h hh => ?_⟩⟩
          rcases HM9.out h hh with e | e
          · obtain ⟨j, hj, h1, h2⟩ := HO.out h e
            exact ⟨j, hj, by omega, h2⟩
          · exact HON.out h e
      · have HX := Aside0.mk (show i = min acts.length 60 by omega)
        have hrunP := hRun.pool
        have hrunB := hRun.below
        clear hRun
        rcases test_not go with ⟨z3, b3⟩ | ⟨z3, b3, z4, b4⟩
        all_goals
          clear go
          go_wp2
          go_loopg [7] acts.length (fun gg v7 wr => ∃ (j : Nat) (H : List Hd), j ≤ acts.length ∧ acts.length - j ≤ gg ∧ v7 = .int .i64 j ∧ j ≤ 60 ∧ Runs w wr p bt bh R H ∧ Aside0 (∀ h ∈ H, ∃ q, ∃ hq : q < acts.length, j ≤ q ∧ q < i ∧ acts[q].owner = h.f0))
          case atStart => exact ⟨0, H, Nat.zero_le _, by omega, rfl, by omega, ⟨hrunP, hrunB⟩, ⟨fun h hh => by obtain ⟨q, hq, h1, h2⟩ := HO.out h hh; exact ⟨q, hq, Nat.zero_le _, h1, h2⟩⟩⟩
          case round =>
            clear hrunP hrunB HO
            obtain ⟨j, H2, hj, hg2, rfl, hj60, hRun2, HO2⟩ := hrel
            by_cases go2 : (j : Int) < (acts.length : Int) ∧ (j : Int) < 60
            · obtain ⟨g1, g2⟩ := go2
              have d3 : decide ((j : Int) < (acts.length : Int)) = true := decide_eq_true g1
              have d4 : decide ((j : Int) < 60) = true := decide_eq_true g2
              have hlt : j < acts.length := by omega
              obtain ⟨ad, B, cb, e, x0, x1, x2, x3, x4, hcb, hCB⟩ := at_A HA.out j hlt
              cases e
              have hbk := World.block_lt_of_cell? w _ x1
              have HON := Aside0.mk (show ∀ h : Hd, h.f0 ≠ acts[j].owner → ∀ q (hq : q < acts.length), acts[q].owner = h.f0 → q ≠ j from fun h hn q hq e1 e2 => by subst e2; exact hn e1.symm)
              obtain ⟨a, hA⟩ : ∃ a, acts[j] = a := ⟨_, rfl⟩
              rw [hA] at x1 HON
              clear hA x0 x2 x3 x4 hcb hCB
              replace x1 := (hRun2.below.cell hbk).trans x1
              have hG := Give.calls p bt bh R H2 a.owner wr hRun2.pool
              have hq := hRun2.below
              have HM9 := Aside0.mk (fun (x : Hd) (hx : x ∈ giveOf H2 a.owner) => giveOf_mem hx)
              generalize giveOf H2 a.owner = H' at *
              go_wp2_with (go_at_call 11; refine hG.mono ?_; rintro e5 w4 ⟨rfl, hP4, hg4⟩; have q4 : Below w.heap.size w w4 := hq.trans (grown_below hg4 hbhb hq.size); clear hG hq)
              go_roundg (acts.length - (j + 1))
              case measure => omega
              case rel =>
                refine ⟨j + 1, H', by omega, Nat.le_refl _, by go_num, by omega, ⟨hP4, q4⟩, ⟨fun h hh => ?_⟩⟩
                obtain ⟨e1, e2⟩ := HM9.out h hh
                obtain ⟨q, hq, h1, h2, h3⟩ := HO2.out h e1
                have := HON.out h e2 q hq h3
                exact ⟨q, hq, by omega, h2, h3⟩
            · have HX2 := Aside0.mk (show j = min acts.length 60 by omega)
              have hE : H2 = [] := by
                cases H2 with
                | nil => rfl
                | cons h t =>
                  obtain ⟨q, hq, h1, h2, h3⟩ := HO2.out h (.head _)
                  have := HX.out
                  have := HX2.out
                  omega
              subst hE
              have hrunQ : Runs w wr p bt bh R [] := ⟨hRun2.pool, hRun2.below⟩
              clear hRun2 HO2
              rcases test_not go2 with ⟨z3, d3⟩ | ⟨z3, d3, z4, d4⟩
              all_goals
                clear go2
                go_wp2
                go_loopg [8, 9, 10, 11, 12] l.length (fun gg v8 v9 v10 v11 v12 wr => ∃ k : Nat, k ≤ l.length ∧ l.length - k ≤ gg ∧ v8 = .int .i64 k ∧ Runs w wr p bt bh R [])
                case atStart => exact ⟨0, Nat.zero_le _, by omega, rfl, hrunQ⟩
                case round =>
                  clear hrunQ
                  try clear z4 d4
                  clear z3 d3
                  obtain ⟨k, hk0, hg3, rfl, hRun3⟩ := hrel
                  by_cases hkl : k < l.length
                  · have f3 : decide ((k : Int) < (l.length : Int)) = true := decide_eq_true (by omega)
                    have f4 : (k : Int) < (l.length : Int) := by omega
                    have f5 : (0 : Int) ≤ (k : Int) := by omega
                    obtain ⟨ad, e, x0, x1, x2⟩ := at_T53 HL.out (k : Int) f5 f4
                    cases e
                    have hbk := World.block_lt_of_cell? w _ x0
                    rw [rdrs_at l k hkl, Int.toNat_natCast] at x0
                    rw [Int.toNat_natCast] at hbk
                    have hwx := (hlw _ (List.getElem_mem hkl)).1
                    obtain ⟨x, hx⟩ : ∃ x, l[k] = x := ⟨_, rfl⟩
                    rw [hx] at x0 hwx
                    clear hx x1 x2
                    have hU := Units.calls p bt bh R [] x.f0 hwx wr hRun3.pool
                    have hF := fun (V : World) (hV : PoolAt V p bt bh R []) => Free.calls p bt bh R [] x.f0 hwx V hV
                    rw [free_none] at hF
                    have z0 := (hRun3.below.cell hbk).trans x0
                    generalize (unitsOf R x.f0).1 = u1 at hU hF
                    generalize (unitsOf R x.f0).2 = u2 at hU hF
                    have n1 : (u1 != u1) = false := bne_self_eq_false _
                    have n2 : (u2 != u2) = false := bne_self_eq_false _
                    go_wp2_with (first | (go_at_call 20; refine hU.mono ?_; rintro e5 w5 ⟨rfl, b5⟩; have q5 := below_go hRun3.below hRun3.below.size b5; have hP5 := hRun3.pool.below b5; have z5 := (q5.cell hbk).trans x0; clear hU b5 z0) | (go_at_call 15; refine (hF _ hP5).mono ?_; rintro e6 w6 ⟨rfl, b6⟩; have q6 := below_go q5 q5.size b6; have hP6 := hP5.below b6; clear hF b6 q5 hP5 z5))
                    go_roundg (l.length - (k + 1))
                    case measure => omega
                    case rel => exact ⟨k + 1, by omega, Nat.le_refl _, by go_num, ⟨hP6, q6⟩⟩
                  · have f3 : decide ((k : Int) < (l.length : Int)) = false := decide_eq_false (by omega)
                    have hLs := List.calls p bt bh R [] wr hRun3.pool
                    go_wp2_with (first | (go_at_call 14; refine hLs.mono ?_; rintro e7 w7 ⟨v7, rfl, r7, b7⟩; obtain ⟨A7, k7, e8, _, _⟩ := Kd.R_reads r7; rw [List.map_nil, List.length_nil] at e8; subst e8; have q7 := below_go hRun3.below hRun3.below.size b7; clear r7 b7) | (go_at_call 8; refine (hk _).mono ?_; rintro e9 w9 ⟨rfl, b9⟩))
                    go_ret
                    exact ⟨rfl, below_go q7 q7.size b9⟩
end Go.Proofs.Ytgepalpcaphbeaa.QPoolPlays
