/- The reference's pool: whether needs are right, whether they may be. No conditions beyond those that each theorem names. -/
import Derived.Test.YtgdnljhndjlefaaQNeedFitsPoolRef
namespace Go.Proofs.Ytgdnljhndjlefaa.QNeedFits
open Go.RowKit Go.Proofs.Ytgdnljhndjlefaa.PNeedFits Go.Proofs.YtgdnljhndjlefaaW.PrintWords Go.Proofs.YtgdnljhndjlefaaW.PrintLast Go.Proofs.YtgdnljhndjlefaaW.PrintMore Go.Proofs.Ytgdnljhndjlefaa.MMaps
set_option linter.unusedVariables false
set_option linter.unusedSimpArgs false
set_option maxRecDepth 100000
theorem any_take {L : List Nr} {s : ByteArray} {i j : Nat} (hj : j < L.length) (hji : j < i) (h : eqS L[j].f0 s = true) : ((L.take i).map toN).any (fun m => eqS m.f0 s) = true := by
  rw [List.any_eq_true]
  exact ⟨toN L[j], List.mem_map.mpr ⟨L[j], List.mem_iff_getElem?.mpr ⟨j, by rw [List.getElem?_take, if_pos hji, List.getElem?_eq_getElem hj]⟩, rfl⟩, h⟩
theorem any_not {L : List Nr} {s : ByteArray} {i : Nat} (h : ∀ (j : Nat) (hj : j < L.length), j < i → eqS L[j].f0 s = false) : ((L.take i).map toN).any (fun m => eqS m.f0 s) = false := by
  rw [List.any_eq_false]
  intro x hx
  obtain ⟨y, hy, rfl⟩ := List.mem_map.mp hx
  obtain ⟨j, hj⟩ := List.mem_iff_getElem?.mp hy
  rw [List.getElem?_take] at hj
  split at hj
  · rename_i q
    obtain ⟨h1, rfl⟩ := List.getElem?_eq_some_iff.mp hj
    have := h j h1 q
    show ¬ eqS L[j].f0 s = true
    rw [this]; simp
  · cases hj
set_option maxHeartbeats 16000000 in
theorem right.calls (r : Nat) (ok : Nat → Prop) (R : List Rs) (H : List Hd) (A0 : Option Addr) (c0 : Nat) (L : List Nr) (i : Nat) (hi : i < L.length) (w : World) (h : RefAt w r ok R H) (hl : R.length ≤ 100000) (hC : Kd.C k80 w A0 L.length L) (hc : L.length ≤ c0) (hll : L.length ≤ 1000000000000000) : Calls Try.prog 48 #[.pointer (some ⟨r, 0, none⟩), .slice A0 L.length c0, .int .i64 i] w fun e w' => e = .returned (.int .i64 (right1 R ((L.take i).map toN) (toN L[i]))) ∧ Below w.heap.size w w' := by
  obtain ⟨e0, he0⟩ : ∃ e0, right1 R ((L.take i).map toN) (toN L[i]) = e0 := ⟨_, rfl⟩
  rw [he0]
  have HE := Aside0.mk he0
  have HR := Aside0.mk h
  have HC := Aside0.mk hC
  clear he0 h
  have hz0 : (0 : Int) ≤ (i : Int) := by omega
  have hlt0 : (i : Int) < (L.length : Int) := by omega
  obtain ⟨ad, e, x0, x1, x2⟩ := at_T80 hC (i : Int) hz0 hlt0
  cases e
  rw [rdnr_at L i hi, Int.toNat_natCast] at x0 x1 x2
  clear hC
  obtain ⟨n, hn⟩ : ∃ n, L[i] = n := ⟨_, rfl⟩
  rw [hn] at x0 x1 x2 HE
  clear hn
  go_enter Try.func48, Try.ntmps48
  go_upto_region 2 with (fail)
  obtain ⟨V, hV⟩ : ∃ V, V = w.alloc (.cells #[.string n.f0, .int .i64 n.f1, .int .i64 n.f2] 80 (0, 0)) := ⟨_, rfl⟩
  have hbV : Below w.heap.size w V := by rw [hV]; exact below_alloc (Below.refl _ _) _
  have kb : V.heap[w.heap.size]? = some (.cells #[.string n.f0, .int .i64 n.f1, .int .i64 n.f2] 80 (0, 0)) := by rw [hV]; exact blk_new _ _
  rw [← hV]
  clear hV x0 x1 x2
  have hF := find.calls r ok R H n.f0 V (HR.out.below hbV) hl
  have y0 : V.cell? ⟨w.heap.size, 0, none⟩ = some (.string n.f0) := blk_cell kb 0
  go_upto_region 3 with (go_at_call 29; refine hF.mono ?_; rintro e w1 ⟨⟨k, rfl, hst⟩, d1⟩)
  have HB := Aside0.mk (below_go hbV hbV.size d1.below)
  have kb1 := blk_below kb d1.below
  obtain ⟨A1, c1, A2, c2, r0, r1, hc1, hc2, hC1, _⟩ := (HR.out.below HB.out).reads
  have HC1 := Aside0.mk (Kd.C_below HC.out HB.out)
  clear hF y0 kb hbV r1 d1
  rcases hst with ⟨rfl, hn⟩ | ⟨k, hk, rfl, hs⟩
  · have he := HE.out
    unfold right1 at he
    rw [show (toN n).f0 = n.f0 from rfl, hn] at he
    subst he
    go_wp2
    go_ret
    exact ⟨rfl, HB.out⟩
  · have hz : (0 : Int) ≤ (k : Int) := by omega
    have hltz : (k : Int) < (R.length : Int) := by omega
    have hnn : decide ((k : Int) < 0) = false := decide_eq_false (by omega)
    obtain ⟨ad1, e, z0, z1, z2⟩ := at_T47 hC1 (k : Int) hz hltz
    cases e
    rw [rdrs_at R k hk, Int.toNat_natCast] at z2
    have HE2 := Aside0.mk (show (if okNeed R[k] (toN n) then (if ((L.take i).map toN).any (fun m => eqS m.f0 n.f0) then (22 : Int) else 0) else 1) = e0 by have he := HE.out; unfold right1 at he; rw [show (toN n).f0 = n.f0 from rfl, hs] at he; exact he)
    obtain ⟨y, hy⟩ : ∃ y, R[k] = y := ⟨_, rfl⟩
    rw [hy] at z2 HE2
    clear hy hs z0 z1 hC1
    have y1 : w1.cell? ⟨w.heap.size, 1, none⟩ = some (.int .i64 n.f1) := blk_cell kb1 1
    have y2 : w1.cell? ⟨w.heap.size, 2, none⟩ = some (.int .i64 n.f2) := blk_cell kb1 2
    have HKB := Aside0.mk kb1
    clear kb1
    cases hb : y.f2 with
    | true =>
      rw [hb] at z2
      by_cases m1 : n.f2 = 1
      · have hok : okNeed y (toN n) = true := by unfold okNeed toN; rw [hb]; simp [m1]
        have t1 : (n.f2 != 1) = false := by rw [m1]; rfl
        have HE3 := Aside0.mk (show (if ((L.take i).map toN).any (fun m => eqS m.f0 n.f0) then (22 : Int) else 0) = e0 by have he := HE2.out; rw [hok] at he; exact he)
        clear hok
        go_wp2
        clear m1 t1 hb y1 y2 z2
        go_loopg [9] i (fun gg v9 wr => ∃ j : Nat, j ≤ i ∧ i - j ≤ gg ∧ v9 = .int .i64 j ∧ Aside0 (Below w1.heap.size w1 wr) ∧ Aside0 (∀ (q : Nat) (hq : q < L.length), q < j → eqS L[q].f0 n.f0 = false))
        case atStart => exact ⟨0, Nat.zero_le _, by omega, rfl, ⟨Below.refl _ _⟩, ⟨fun q _ hq => absurd hq (Nat.not_lt_zero _)⟩⟩
        case round =>
          obtain ⟨j, hj, hg, rfl, BW, AA⟩ := hrel
          by_cases hlt : j < i
          · have d1 : decide ((j : Int) < (i : Int)) = true := decide_eq_true (by omega)
            have d2 : (0 : Int) ≤ (j : Int) := by omega
            have d3 : (j : Int) < (L.length : Int) := by omega
            have hjl : j < L.length := by omega
            obtain ⟨ad2, e, v0, v1, v2⟩ := at_T80 HC1.out (j : Int) d2 d3
            obtain rfl := Option.some.inj e
            have hbk := World.block_lt_of_cell? w1 _ v0
            rw [rdnr_at L j hjl, Int.toNat_natCast] at v0
            rw [Int.toNat_natCast] at hbk
            replace v0 := (BW.out.cell hbk).trans v0
            have HANY := Aside0.mk (fun (q : eqS L[j].f0 n.f0 = true) => any_take hjl hlt q)
            obtain ⟨x, hx⟩ : ∃ x, L[j] = x := ⟨_, rfl⟩
            have HX := Aside0.mk hx
            rw [hx] at v0 HANY
            clear hx v1 v2
            have u0 : wr.cell? ⟨w.heap.size, 0, none⟩ = some (.string n.f0) := blk_cell (blk_below HKB.out BW.out) 0
            cases hq : eqS x.f0 n.f0 with
            | true =>
              have t1 : (x.f0.toList == n.f0.toList) = true := hq
              have HQ := Aside0.mk hq
              clear hq
              go_upto_region 10 with (fail)
              go_quiet (fail)
              go_wp2
              go_ret
              refine ⟨?_, below_go HB.out HB.out.size (below_go BW.out BW.out.size (Drawn0.mk ⟨nq, rfl⟩).below)⟩
              rw [← HE3.out, HANY.out HQ.out]; rfl
            | false =>
              have t1 : (x.f0.toList == n.f0.toList) = false := hq
              have HQ := Aside0.mk hq
              clear hq
              go_upto_region 10 with (fail)
              go_quiet (fail)
              go_wp2
              go_roundg (i - (j + 1))
              case measure => omega
              case rel =>
                refine ⟨j + 1, by omega, Nat.le_refl _, by go_num, ⟨below_go BW.out BW.out.size (Drawn0.mk ⟨nq, rfl⟩).below⟩, ⟨fun q h hqj => ?_⟩⟩
                by_cases e : q = j
                · subst e; rw [HX.out]; exact HQ.out
                · exact AA.out q h (by omega)
          · have d1 : decide ((j : Int) < (i : Int)) = false := decide_eq_false (by omega)
            have HN := Aside0.mk (any_not (L := L) (s := n.f0) (i := i) (fun q hq hqi => AA.out q hq (by omega)))
            go_wp2
            go_ret
            exact ⟨by rw [← HE3.out, HN.out]; rfl, below_go HB.out HB.out.size BW.out⟩
      · by_cases m2 : n.f2 = 2
        · have hok : okNeed y (toN n) = true := by unfold okNeed toN; rw [hb]; simp [m2]
          have t1 : (n.f2 != 1) = true := bne_iff_ne.mpr m1
          have t2 : (n.f2 != 2) = false := by rw [m2]; rfl
          have HE3 := Aside0.mk (show (if ((L.take i).map toN).any (fun m => eqS m.f0 n.f0) then (22 : Int) else 0) = e0 by have he := HE2.out; rw [hok] at he; exact he)
          clear hok
          go_wp2
          clear m1 m2 t1 t2 hb y1 y2 z2
          go_loopg [9] i (fun gg v9 wr => ∃ j : Nat, j ≤ i ∧ i - j ≤ gg ∧ v9 = .int .i64 j ∧ Aside0 (Below w1.heap.size w1 wr) ∧ Aside0 (∀ (q : Nat) (hq : q < L.length), q < j → eqS L[q].f0 n.f0 = false))
          case atStart => exact ⟨0, Nat.zero_le _, by omega, rfl, ⟨Below.refl _ _⟩, ⟨fun q _ hq => absurd hq (Nat.not_lt_zero _)⟩⟩
          case round =>
            obtain ⟨j, hj, hg, rfl, BW, AA⟩ := hrel
            by_cases hlt : j < i
            · have d1 : decide ((j : Int) < (i : Int)) = true := decide_eq_true (by omega)
              have d2 : (0 : Int) ≤ (j : Int) := by omega
              have d3 : (j : Int) < (L.length : Int) := by omega
              have hjl : j < L.length := by omega
              obtain ⟨ad2, e, v0, v1, v2⟩ := at_T80 HC1.out (j : Int) d2 d3
              obtain rfl := Option.some.inj e
              have hbk := World.block_lt_of_cell? w1 _ v0
              rw [rdnr_at L j hjl, Int.toNat_natCast] at v0
              rw [Int.toNat_natCast] at hbk
              replace v0 := (BW.out.cell hbk).trans v0
              have HANY := Aside0.mk (fun (q : eqS L[j].f0 n.f0 = true) => any_take hjl hlt q)
              obtain ⟨x, hx⟩ : ∃ x, L[j] = x := ⟨_, rfl⟩
              have HX := Aside0.mk hx
              rw [hx] at v0 HANY
              clear hx v1 v2
              have u0 : wr.cell? ⟨w.heap.size, 0, none⟩ = some (.string n.f0) := blk_cell (blk_below HKB.out BW.out) 0
              cases hq : eqS x.f0 n.f0 with
              | true =>
                have t1 : (x.f0.toList == n.f0.toList) = true := hq
                have HQ := Aside0.mk hq
                clear hq
                go_upto_region 10 with (fail)
                go_quiet (fail)
                go_wp2
                go_ret
                refine ⟨?_, below_go HB.out HB.out.size (below_go BW.out BW.out.size (Drawn0.mk ⟨nq, rfl⟩).below)⟩
                rw [← HE3.out, HANY.out HQ.out]; rfl
              | false =>
                have t1 : (x.f0.toList == n.f0.toList) = false := hq
                have HQ := Aside0.mk hq
                clear hq
                go_upto_region 10 with (fail)
                go_quiet (fail)
                go_wp2
                go_roundg (i - (j + 1))
                case measure => omega
                case rel =>
                  refine ⟨j + 1, by omega, Nat.le_refl _, by go_num, ⟨below_go BW.out BW.out.size (Drawn0.mk ⟨nq, rfl⟩).below⟩, ⟨fun q h hqj => ?_⟩⟩
                  by_cases e : q = j
                  · subst e; rw [HX.out]; exact HQ.out
                  · exact AA.out q h (by omega)
            · have d1 : decide ((j : Int) < (i : Int)) = false := decide_eq_false (by omega)
              have HN := Aside0.mk (any_not (L := L) (s := n.f0) (i := i) (fun q hq hqi => AA.out q hq (by omega)))
              go_wp2
              go_ret
              exact ⟨by rw [← HE3.out, HN.out]; rfl, below_go HB.out HB.out.size BW.out⟩
        · have hok : okNeed y (toN n) = false := by unfold okNeed toN; rw [hb]; simp [m1, m2]
          have t1 : (n.f2 != 1) = true := bne_iff_ne.mpr m1
          have t2 : (n.f2 != 2) = true := bne_iff_ne.mpr m2
          have he := HE2.out
          rw [hok] at he
          subst he
          clear hok
          go_wp2
          go_ret
          exact ⟨rfl, HB.out⟩
    | false =>
      rw [hb] at z2
      by_cases m0 : n.f2 = 0
      · have t0 : (n.f2 != 0) = false := by rw [m0]; rfl
        by_cases lo : n.f1 < 1
        · have hok : okNeed y (toN n) = false := by unfold okNeed toN; rw [hb]; simp [m0]; omega
          have t1 : decide (n.f1 < 1) = true := decide_eq_true lo
          have he := HE2.out
          rw [hok] at he
          subst he
          clear hok
          go_wp2
          go_ret
          exact ⟨rfl, HB.out⟩
        · have t1 : decide (n.f1 < 1) = false := decide_eq_false lo
          by_cases hi2 : n.f1 > 1000
          · have hok : okNeed y (toN n) = false := by unfold okNeed toN; rw [hb]; simp [m0]; omega
            have t2 : decide (n.f1 > 1000) = true := decide_eq_true hi2
            have t3 : decide (1000 < n.f1) = true := decide_eq_true hi2
            have he := HE2.out
            rw [hok] at he
            subst he
            clear hok
            go_wp2
            go_ret
            exact ⟨rfl, HB.out⟩
          · have hok : okNeed y (toN n) = true := by unfold okNeed toN; rw [hb]; simp [m0]; omega
            have t2 : decide (n.f1 > 1000) = false := decide_eq_false hi2
            have t3 : decide (1000 < n.f1) = false := decide_eq_false hi2
            have HE3 := Aside0.mk (show (if ((L.take i).map toN).any (fun m => eqS m.f0 n.f0) then (22 : Int) else 0) = e0 by have he := HE2.out; rw [hok] at he; exact he)
            clear hok
            go_wp2
            clear m0 t0 lo t1 hi2 t2 t3 hb y1 y2 z2
            go_loopg [9] i (fun gg v9 wr => ∃ j : Nat, j ≤ i ∧ i - j ≤ gg ∧ v9 = .int .i64 j ∧ Aside0 (Below w1.heap.size w1 wr) ∧ Aside0 (∀ (q : Nat) (hq : q < L.length), q < j → eqS L[q].f0 n.f0 = false))
            case atStart => exact ⟨0, Nat.zero_le _, by omega, rfl, ⟨Below.refl _ _⟩, ⟨fun q _ hq => absurd hq (Nat.not_lt_zero _)⟩⟩
            case round =>
              obtain ⟨j, hj, hg, rfl, BW, AA⟩ := hrel
              by_cases hlt : j < i
              · have d1 : decide ((j : Int) < (i : Int)) = true := decide_eq_true (by omega)
                have d2 : (0 : Int) ≤ (j : Int) := by omega
                have d3 : (j : Int) < (L.length : Int) := by omega
                have hjl : j < L.length := by omega
                obtain ⟨ad2, e, v0, v1, v2⟩ := at_T80 HC1.out (j : Int) d2 d3
                obtain rfl := Option.some.inj e
                have hbk := World.block_lt_of_cell? w1 _ v0
                rw [rdnr_at L j hjl, Int.toNat_natCast] at v0
                rw [Int.toNat_natCast] at hbk
                replace v0 := (BW.out.cell hbk).trans v0
                have HANY := Aside0.mk (fun (q : eqS L[j].f0 n.f0 = true) => any_take hjl hlt q)
                obtain ⟨x, hx⟩ : ∃ x, L[j] = x := ⟨_, rfl⟩
                have HX := Aside0.mk hx
                rw [hx] at v0 HANY
                clear hx v1 v2
                have u0 : wr.cell? ⟨w.heap.size, 0, none⟩ = some (.string n.f0) := blk_cell (blk_below HKB.out BW.out) 0
                cases hq : eqS x.f0 n.f0 with
                | true =>
                  have t1 : (x.f0.toList == n.f0.toList) = true := hq
                  have HQ := Aside0.mk hq
                  clear hq
                  go_upto_region 10 with (fail)
                  go_quiet (fail)
                  go_wp2
                  go_ret
                  refine ⟨?_, below_go HB.out HB.out.size (below_go BW.out BW.out.size (Drawn0.mk ⟨nq, rfl⟩).below)⟩
                  rw [← HE3.out, HANY.out HQ.out]; rfl
                | false =>
                  have t1 : (x.f0.toList == n.f0.toList) = false := hq
                  have HQ := Aside0.mk hq
                  clear hq
                  go_upto_region 10 with (fail)
                  go_quiet (fail)
                  go_wp2
                  go_roundg (i - (j + 1))
                  case measure => omega
                  case rel =>
                    refine ⟨j + 1, by omega, Nat.le_refl _, by go_num, ⟨below_go BW.out BW.out.size (Drawn0.mk ⟨nq, rfl⟩).below⟩, ⟨fun q h hqj => ?_⟩⟩
                    by_cases e : q = j
                    · subst e; rw [HX.out]; exact HQ.out
                    · exact AA.out q h (by omega)
              · have d1 : decide ((j : Int) < (i : Int)) = false := decide_eq_false (by omega)
                have HN := Aside0.mk (any_not (L := L) (s := n.f0) (i := i) (fun q hq hqi => AA.out q hq (by omega)))
                go_wp2
                go_ret
                exact ⟨by rw [← HE3.out, HN.out]; rfl, below_go HB.out HB.out.size BW.out⟩
      · have t0 : (n.f2 != 0) = true := bne_iff_ne.mpr m0
        have hok : okNeed y (toN n) = false := by unfold okNeed toN; rw [hb]; simp [m0]
        have he := HE2.out
        rw [hok] at he
        subst he
        clear hok
        go_wp2
        go_ret
        exact ⟨rfl, HB.out⟩
/-- The rest of May: who may have all. -/
theorem busy_ref {R : List Rs} {H : List Hd} {n : Nd} (hn : n.f2 = 0) : busyOf R H n = decide ((freeOf R H n.f0).1 < n.f1) := by unfold busyOf; rw [if_pos hn]
theorem busy_ref2 {R : List Rs} {H : List Hd} {n : Nd} (hn : n.f2 ≠ 0) : busyOf R H n = H.any (clash n) := by unfold busyOf; rw [if_neg hn]
theorem rights_snoc (R : List Rs) (L : List Nr) (i : Nat) (h : i < L.length) : rights R ((L.take i).map toN) ((L.drop i).map toN) = if right1 R ((L.take i).map toN) (toN L[i]) = 0 then rights R ((L.take (i + 1)).map toN) ((L.drop (i + 1)).map toN) else right1 R ((L.take i).map toN) (toN L[i]) := by
  rw [List.drop_eq_getElem_cons h, List.take_succ_eq_append_getElem h, List.map_append, List.map_cons]
  rfl
set_option maxHeartbeats 32000000 in
theorem RMay.calls (r : Nat) (ok : Nat → Prop) (R : List Rs) (H : List Hd) (o : Int) (A0 : Option Addr) (c0 : Nat) (L : List Nr) (w : World) (h : RefAt w r ok R H) (hgd : Good R H) (hC : Kd.C k80 w A0 L.length L) (hc : L.length ≤ c0) (hll : L.length ≤ 1000000000000000) : Calls Try.prog 31 #[.pointer (some ⟨r, 0, none⟩), .int .i64 o, .slice A0 L.length c0] w fun e w' => e = .returned (.int .i64 (mayOf R H o (L.map toN))) ∧ Below w.heap.size w w' := by
  obtain ⟨e0, he0⟩ : ∃ e0, mayOf R H o (L.map toN) = e0 := ⟨_, rfl⟩
  rw [he0]
  have HE := Aside0.mk he0
  have HR := Aside0.mk h
  have HC := Aside0.mk hC
  have HG := Aside0.mk hgd
  have hrl := hgd.rlen
  have hln := hgd.hlen
  obtain ⟨A1, c1, A2, c2, r0, r1, hc1, hc2, _, hC2⟩ := h.reads
  have HC2 := Aside0.mk hC2
  clear he0 h hC hgd hC2 r0
  go_enter Try.func31, Try.ntmps31
  go_wp2
  go_loopg [7] H.length (fun gg v7 wr => ∃ i : Nat, i ≤ H.length ∧ H.length - i ≤ gg ∧ v7 = .int .i64 i ∧ Aside0 (Below w.heap.size w wr) ∧ Aside0 (∀ (j : Nat) (hj : j < H.length), j < i → decide (H[j].f0 = o) = false))
  case atStart => exact ⟨0, Nat.zero_le _, by omega, rfl, ⟨Below.refl _ _⟩, ⟨fun j _ hj => absurd hj (Nat.not_lt_zero _)⟩⟩
  case round =>
    obtain ⟨i, hi, hg, rfl, BW, AA⟩ := hrel
    have q1 := (BW.out.cell (World.block_lt_of_cell? w _ r1)).trans r1
    by_cases hlt : i < H.length
    · have hltz : (i : Int) < (H.length : Int) := by omega
      have hz : (0 : Int) ≤ (i : Int) := by omega
      obtain ⟨ad, e, x0, x1, x2, x3⟩ := at_T56 HC2.out (i : Int) hz hltz
      cases e
      have hblk := World.block_lt_of_cell? w _ x0
      rw [rdhd_at H i hlt, Int.toNat_natCast] at x0
      rw [Int.toNat_natCast] at hblk
      have hmem := List.getElem_mem hlt
      obtain ⟨y, hy⟩ : ∃ y, H[i] = y := ⟨_, rfl⟩
      have HY := Aside0.mk hy
      rw [hy] at x0 hmem
      have HM := Aside0.mk hmem
      replace x0 := (BW.out.cell hblk).trans x0
      clear hy hmem x1 x2 x3
      by_cases hq : y.f0 = o
      · have t1 : (y.f0 == o) = true := beq_iff_eq.mpr hq
        have HQ := Aside0.mk (show e0 = 5 by rw [← HE.out]; unfold mayOf; rw [List.any_eq_true.mpr ⟨y, HM.out, decide_eq_true hq⟩]; rfl)
        clear hq
        go_wp2
        go_ret
        exact ⟨by rw [HQ.out]; rfl, BW.out⟩
      · have t1 : (y.f0 == o) = false := beq_eq_false_iff_ne.mpr hq
        have HQ := Aside0.mk hq
        clear hq
        go_wp2
        go_roundg (H.length - (i + 1))
        case measure => omega
        case rel =>
          refine ⟨i + 1, by omega, Nat.le_refl _, by go_num, BW, ⟨fun j h hj => ?_⟩⟩
          by_cases e : j = i
          · subst e; rw [HY.out]; exact decide_eq_false HQ.out
          · exact AA.out j h (by omega)
    · have hltz : ¬ (i : Int) < (H.length : Int) := by omega
      have HE2 := Aside0.mk (show (if rights R [] (L.map toN) = 0 then (if (L.map toN).any (busyOf R H) then (32 : Int) else 0) else rights R [] (L.map toN)) = e0 by
        rw [← HE.out]
        unfold mayOf
        rw [show (H.any fun h => decide (h.f0 = o)) = false by rw [List.any_eq_false]; intro x hx; obtain ⟨j, hj, rfl⟩ := List.getElem_of_mem hx; have := AA.out j hj (by omega); rw [this]; simp]
        rfl)
      have hqw := BW.out
      clear AA BW HE
      go_wp2
      clear hltz q1
      go_loopg [8, 9] L.length (fun gg v8 v9 wr => ∃ i : Nat, i ≤ L.length ∧ L.length - i ≤ gg ∧ v8 = .int .i64 i ∧ Aside0 (Below w.heap.size w wr) ∧ Aside0 (rights R ((L.take i).map toN) ((L.drop i).map toN) = rights R [] (L.map toN)))
      case atStart => exact ⟨0, Nat.zero_le _, by omega, rfl, ⟨hqw⟩, ⟨rfl⟩⟩
      case round =>
        clear hqw
        obtain ⟨m, hm, hg2, rfl, BW2, HT⟩ := hrel
        by_cases hml : m < L.length
        · have d1 : decide ((m : Int) < (L.length : Int)) = true := decide_eq_true (by omega)
          have hRt := right.calls r ok R H A0 c0 L m hml wr (HR.out.below BW2.out) hrl (Kd.C_below HC.out BW2.out) hc hll
          have hst := rights_snoc R L m hml
          rw [HT.out] at hst
          have HST := Aside0.mk hst
          clear hst
          generalize right1 R ((L.take m).map toN) (toN L[m]) = q at *
          by_cases hq0 : q = 0
          · subst hq0
            have HS2 := Aside0.mk (show rights R ((L.take (m + 1)).map toN) ((L.drop (m + 1)).map toN) = rights R [] (L.map toN) by have h1 := HST.out; rw [if_pos rfl] at h1; exact h1.symm)
            go_wp2_with (go_at_call 48; refine hRt.mono ?_; rintro e w1 ⟨rfl, b1⟩)
            go_roundg (L.length - (m + 1))
            case measure => omega
            case rel => exact ⟨m + 1, by omega, Nat.le_refl _, by go_num, ⟨below_go BW2.out BW2.out.size b1⟩, HS2⟩
          · have t1 : (q == 0) = false := beq_eq_false_iff_ne.mpr hq0
            have t2 : (q != 0) = true := bne_iff_ne.mpr hq0
            have HQ := Aside0.mk (show e0 = q by have h1 := HST.out; rw [if_neg hq0] at h1; have h2 := HE2.out; rw [h1, if_neg hq0] at h2; exact h2.symm)
            go_wp2_with (go_at_call 48; refine hRt.mono ?_; rintro e w1 ⟨rfl, b1⟩)
            go_ret
            exact ⟨by rw [HQ.out]; rfl, below_go BW2.out BW2.out.size b1⟩
        · have d1 : decide ((m : Int) < (L.length : Int)) = false := decide_eq_false (by omega)
          have e1 : rights R [] (L.map toN) = 0 := by rw [← HT.out, List.drop_eq_nil_of_le (by omega)]; rfl
          have HE3 := Aside0.mk (show (if (L.map toN).any (busyOf R H) then (32 : Int) else 0) = e0 by have h2 := HE2.out; rw [e1] at h2; exact h2)
          have HOK := Aside0.mk e1
          have hqw := BW2.out
          clear e1 BW2 HT HE2
          go_wp2
          clear d1
          go_loopg [10, 11, 12, 13] L.length (fun gg v10 v11 v12 v13 wr => ∃ i : Nat, i ≤ L.length ∧ L.length - i ≤ gg ∧ v10 = .int .i64 i ∧ Aside0 (Below w.heap.size w wr) ∧ Aside0 (∀ (j : Nat) (hj : j < L.length), j < i → busyOf R H (toN L[j]) = false))
          case atStart => exact ⟨0, Nat.zero_le _, by omega, rfl, ⟨hqw⟩, ⟨fun j _ hj => absurd hj (Nat.not_lt_zero _)⟩⟩
          case round =>
            clear hqw
            obtain ⟨k, hk, hg3, rfl, BW3, AB⟩ := hrel
            by_cases hkl : k < L.length
            · have d1 : decide ((k : Int) < (L.length : Int)) = true := decide_eq_true (by omega)
              have d2 : (k : Int) < (L.length : Int) := by omega
              have d3 : (0 : Int) ≤ (k : Int) := by omega
              obtain ⟨ad, e, x0, x1, x2⟩ := at_T80 HC.out (k : Int) d3 d2
              cases e
              have hblk := World.block_lt_of_cell? w _ x0
              rw [rdnr_at L k hkl, Int.toNat_natCast] at x0 x1 x2
              rw [Int.toNat_natCast] at hblk
              have hmem : toN L[k] ∈ L.map toN := List.mem_map.mpr ⟨L[k], List.getElem_mem hkl, rfl⟩
              obtain ⟨n, hn⟩ : ∃ n, L[k] = n := ⟨_, rfl⟩
              have HN := Aside0.mk hn
              rw [hn] at x0 x1 x2 hmem
              have HMEM := Aside0.mk hmem
              have HMD := Aside0.mk (show n.f2 = 0 ∨ n.f2 = 1 ∨ n.f2 = 2 by obtain ⟨rr, _, hok⟩ := rights_ok HOK.out (toN n) hmem; exact okNeed_mode hok)
              have HBZ := Aside0.mk (show busyOf R H (toN n) = true → e0 = 32 from fun q => by
                rw [← HE3.out, List.any_eq_true.mpr ⟨toN n, hmem, q⟩]; rfl)
              have HBN := Aside0.mk (show busyOf R H (toN n) = false → ∀ (j : Nat) (hj : j < L.length), j < k + 1 → busyOf R H (toN L[j]) = false from fun q j hj hjk => by
                by_cases e : j = k
                · subst e; rw [hn]; exact q
                · exact AB.out j hj (by omega))
              clear hn hmem AB
              have HS : Aside0 (∀ W : World, Below w.heap.size w W → W.cell? (ad.add (k * 3)) = some (.string n.f0) ∧ W.cell? ⟨(ad.add (k * 3)).block, (ad.add (k * 3)).off + 1, none⟩ = some (.int .i64 n.f1) ∧ W.cell? ⟨(ad.add (k * 3)).block, (ad.add (k * 3)).off + 2, none⟩ = some (.int .i64 n.f2)) := ⟨fun W hW => ⟨(hW.cell hblk).trans x0, (hW.cell (p := ⟨(ad.add (k * 3)).block, (ad.add (k * 3)).off + 1, none⟩) hblk).trans x1, (hW.cell (p := ⟨(ad.add (k * 3)).block, (ad.add (k * 3)).off + 2, none⟩) hblk).trans x2⟩⟩
              clear x0 x1 x2
              obtain ⟨y0, y1, y2⟩ := HS.out wr BW3.out
              by_cases m0 : n.f2 = 0
              · have t0 : (n.f2 == 0) = true := beq_iff_eq.mpr m0
                have hFr := RFree.calls r ok R H n.f0 wr (HR.out.below BW3.out) HG.out
                have hbz := busy_ref (R := R) (H := H) (n := toN n) m0
                rw [show (toN n).f0 = n.f0 from rfl, show (toN n).f1 = n.f1 from rfl] at hbz
                generalize (freeOf R H n.f0).1 = u at hFr hbz
                generalize (freeOf R H n.f0).2 = v at hFr
                have HBU := Aside0.mk hbz
                clear hbz
                cases hlo : decide (u < n.f1) with
                | true =>
                  have HQ := Aside0.mk (HBZ.out (by rw [HBU.out]; exact hlo))
                  go_wp2_with (go_at_call 49; refine hFr.mono ?_; rintro e w1 ⟨rfl, dr⟩; have q3 := below_go BW3.out BW3.out.size dr.below; obtain ⟨z0, z1, z2⟩ := HS.out w1 q3; clear y0 y1 y2 dr hFr)
                  go_ret
                  exact ⟨by rw [HQ.out]; rfl, q3⟩
                | false =>
                  have HQ := Aside0.mk (HBN.out (by rw [HBU.out]; exact hlo))
                  go_wp2_with (go_at_call 49; refine hFr.mono ?_; rintro e w1 ⟨rfl, dr⟩; have q3 := below_go BW3.out BW3.out.size dr.below; obtain ⟨z0, z1, z2⟩ := HS.out w1 q3; clear y0 y1 y2 dr hFr)
                  have HQ3 := Aside0.mk q3
                  clear q3 z0 z1 z2 hlo t0
                  go_loopg [13] 0 (fun gg v13 wr => v13 = .int .i64 0 ∧ Aside0 (Below w.heap.size w wr))
                  case atStart => exact ⟨rfl, HQ3⟩
                  case round =>
                    obtain ⟨rfl, BW4⟩ := hrel
                    obtain ⟨z0, z1, z2⟩ := HS.out wr BW4.out
                    have q4 := (BW4.out.cell (World.block_lt_of_cell? w _ r1)).trans r1
                    have n2 : (n.f2 != 0) = false := by rw [m0]; rfl
                    by_cases hH : 0 < H.length
                    · have d4 : decide ((0 : Int) < (H.length : Int)) = true := decide_eq_true (by omega)
                      go_wp2
                      go_roundg (L.length - (k + 1))
                      case measure => omega
                      case rel => exact ⟨k + 1, by omega, Nat.le_refl _, by go_num, BW4, HQ⟩
                    · have d4 : decide ((0 : Int) < (H.length : Int)) = false := decide_eq_false (by omega)
                      go_wp2
                      go_roundg (L.length - (k + 1))
                      case measure => omega
                      case rel => exact ⟨k + 1, by omega, Nat.le_refl _, by go_num, BW4, HQ⟩
              · have t0 : (n.f2 == 0) = false := beq_eq_false_iff_ne.mpr m0
                have HBU := Aside0.mk (busy_ref2 (R := R) (H := H) (n := toN n) m0)
                have HB3 := BW3
                go_wp2
                clear y0 y1 y2 t0
                go_loopg [13] H.length (fun gg v13 wr => ∃ j : Nat, j ≤ H.length ∧ H.length - j ≤ gg ∧ v13 = .int .i64 j ∧ Aside0 (Below w.heap.size w wr) ∧ Aside0 (∀ (q : Nat) (hq : q < H.length), q < j → clash (toN n) H[q] = false))
                case atStart => exact ⟨0, Nat.zero_le _, by omega, rfl, HB3, ⟨fun q _ hq => absurd hq (Nat.not_lt_zero _)⟩⟩
                case round =>
                  obtain ⟨j, hj, hg4, rfl, BW4, AC⟩ := hrel
                  obtain ⟨z0, z1, z2⟩ := HS.out wr BW4.out
                  have q4 := (BW4.out.cell (World.block_lt_of_cell? w _ r1)).trans r1
                  have n2 : (n.f2 != 0) = true := bne_iff_ne.mpr m0
                  by_cases hjl : j < H.length
                  · have d4 : decide ((j : Int) < (H.length : Int)) = true := decide_eq_true (by omega)
                    have d5 : (0 : Int) ≤ (j : Int) := by omega
                    have d6 : (j : Int) < (H.length : Int) := by omega
                    obtain ⟨ad2, e, v0, v1, v2, v3⟩ := at_T56 HC2.out (j : Int) d5 d6
                    cases e
                    have hbk2 := World.block_lt_of_cell? w _ v0
                    rw [rdhd_at H j hjl, Int.toNat_natCast] at v1 v3
                    rw [Int.toNat_natCast] at hbk2
                    have hmemH := List.getElem_mem hjl
                    obtain ⟨y, hy⟩ : ∃ y, H[j] = y := ⟨_, rfl⟩
                    have HY := Aside0.mk hy
                    rw [hy] at v1 v3 hmemH
                    have HMH := Aside0.mk hmemH
                    replace v1 := (BW4.out.cell (p := ⟨(ad2.add (j * 4)).block, (ad2.add (j * 4)).off + 1, none⟩) hbk2).trans v1
                    replace v3 := (BW4.out.cell (p := ⟨(ad2.add (j * 4)).block, (ad2.add (j * 4)).off + 3, none⟩) hbk2).trans v3
                    clear hy hmemH v0 v2 z1
                    have HCL := Aside0.mk (show clash (toN n) y = (eqS y.f1 n.f0 && (decide (y.f3 = 2) || decide (n.f2 = 2))) from rfl)
                    have cases4 : (eqS y.f1 n.f0 = false) ∨ (eqS y.f1 n.f0 = true ∧ (n.f2 == 2) = true) ∨ (eqS y.f1 n.f0 = true ∧ (n.f2 == 2) = false ∧ (y.f3 == 2) = true) ∨ (eqS y.f1 n.f0 = true ∧ (n.f2 == 2) = false ∧ (y.f3 == 2) = false) := by
                      cases eqS y.f1 n.f0 <;> cases (n.f2 == 2) <;> cases (y.f3 == 2) <;> simp
                    rcases cases4 with e1 | ⟨e1, e2⟩ | ⟨e1, e2, e3⟩ | ⟨e1, e2, e3⟩
                    · have t1 : (y.f1.toList == n.f0.toList) = false := e1
                      have HQ := Aside0.mk (show clash (toN n) y = false by rw [HCL.out, e1]; rfl)
                      clear e1
                      go_upto_region 22 with (fail)
                      go_quiet (fail)
                      go_wp2
                      go_roundg (H.length - (j + 1))
                      case measure => omega
                      case rel =>
                        refine ⟨j + 1, by omega, Nat.le_refl _, by go_num, ⟨below_go BW4.out BW4.out.size (Drawn0.mk ⟨nq, rfl⟩).below⟩, ⟨fun q hq hqj => ?_⟩⟩
                        by_cases e : q = j
                        · subst e; rw [HY.out]; exact HQ.out
                        · exact AC.out q hq (by omega)
                    · have t1 : (y.f1.toList == n.f0.toList) = true := e1
                      have HQ := Aside0.mk (show clash (toN n) y = true by rw [HCL.out, e1, decide_eq_true (beq_iff_eq.mp e2)]; simp)
                      clear e1
                      go_upto_region 22 with (fail)
                      go_quiet (fail)
                      go_wp2
                      go_ret
                      refine ⟨?_, below_go BW4.out BW4.out.size (Drawn0.mk ⟨nq, rfl⟩).below⟩
                      rw [HBZ.out (by rw [HBU.out]; exact List.any_eq_true.mpr ⟨y, HMH.out, HQ.out⟩)]
                      rfl
                    · have t1 : (y.f1.toList == n.f0.toList) = true := e1
                      have HQ := Aside0.mk (show clash (toN n) y = true by rw [HCL.out, e1, decide_eq_true (beq_iff_eq.mp e3)]; simp)
                      clear e1
                      go_upto_region 22 with (fail)
                      go_quiet (fail)
                      go_wp2
                      go_ret
                      refine ⟨?_, below_go BW4.out BW4.out.size (Drawn0.mk ⟨nq, rfl⟩).below⟩
                      rw [HBZ.out (by rw [HBU.out]; exact List.any_eq_true.mpr ⟨y, HMH.out, HQ.out⟩)]
                      rfl
                    · have t1 : (y.f1.toList == n.f0.toList) = true := e1
                      have HQ := Aside0.mk (show clash (toN n) y = false by rw [HCL.out, e1, decide_eq_false (beq_eq_false_iff_ne.mp e2), decide_eq_false (beq_eq_false_iff_ne.mp e3)]; rfl)
                      clear e1
                      go_upto_region 22 with (fail)
                      go_quiet (fail)
                      go_wp2
                      go_roundg (H.length - (j + 1))
                      case measure => omega
                      case rel =>
                        refine ⟨j + 1, by omega, Nat.le_refl _, by go_num, ⟨below_go BW4.out BW4.out.size (Drawn0.mk ⟨nq, rfl⟩).below⟩, ⟨fun q hq hqj => ?_⟩⟩
                        by_cases e : q = j
                        · subst e; rw [HY.out]; exact HQ.out
                        · exact AC.out q hq (by omega)
                  · have d4 : decide ((j : Int) < (H.length : Int)) = false := decide_eq_false (by omega)
                    have HQ := Aside0.mk (HBN.out (by rw [HBU.out, List.any_eq_false]; intro x hx; obtain ⟨q, hq, rfl⟩ := List.getElem_of_mem hx; have := AC.out q hq (by omega); rw [this]; simp))
                    go_wp2
                    go_roundg (L.length - (k + 1))
                    case measure => omega
                    case rel => exact ⟨k + 1, by omega, Nat.le_refl _, by go_num, BW4, HQ⟩
            · have d1 : decide ((k : Int) < (L.length : Int)) = false := decide_eq_false (by omega)
              have HQ := Aside0.mk (show e0 = 0 by
                rw [← HE3.out]
                rw [show (L.map toN).any (busyOf R H) = false by
                  rw [List.any_eq_false]; intro x hx; obtain ⟨y, hy, rfl⟩ := List.mem_map.mp hx; obtain ⟨j, hj, rfl⟩ := List.getElem_of_mem hy; have := AB.out j hj (by omega); rw [this]; simp]
                rfl)
              go_wp2
              go_ret
              exact ⟨by rw [HQ.out]; rfl, BW3.out⟩
end Go.Proofs.Ytgdnljhndjlefaa.QNeedFits
