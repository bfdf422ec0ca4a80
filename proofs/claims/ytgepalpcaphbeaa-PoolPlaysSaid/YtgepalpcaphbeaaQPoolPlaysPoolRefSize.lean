/- Other units of a resource: the reference's way. No conditions beyond those that each theorem names. -/
import Derived.Test.YtgepalpcaphbeaaQPoolPlaysPoolSize
namespace Go.Proofs.Ytgepalpcaphbeaa.QPoolPlays
open Go.RowKit Go.Proofs.Ytgepalpcaphbeaa.PPoolPlays Go.Proofs.YtgepalpcaphbeaaW.PrintWords Go.Proofs.YtgepalpcaphbeaaW.PrintLast Go.Proofs.YtgepalpcaphbeaaW.PrintMore Go.Proofs.Ytgepalpcaphbeaa.MMaps
set_option linter.unusedVariables false
set_option linter.unusedSimpArgs false
set_option maxRecDepth 100000
theorem addA (g k : Nat) : (Addr.mk g 0 none).add k = ⟨g, k, none⟩ := by
  simp [Addr.add]
  intro h
  exact h.symm
/-- One cell of a row of resources is changed. -/
theorem row_sized {W : World} {ok : Nat → Prop} {g n c i : Nat} {R : List Rs} (u : Int) (h : k53.R 53 W 0 ok (.slice (some ⟨g, 0, none⟩) n c) R) (hi : i < R.length) :
    k53.R 53 (W.setCell ⟨g, i * 3 + 1, none⟩ (.int .i64 u)) 0 ok (.slice (some ⟨g, 0, none⟩) n c) (R.set i ⟨R[i].f0, u, R[i].f2⟩) := by
  obtain ⟨hn, hc, hC⟩ := Kd.R_reads' h
  obtain ⟨ad, e, x0, x1, x2⟩ := at_T53 hC (i : Int) (by omega) (by omega)
  cases e
  rw [rdrs_at R i hi, Int.toNat_natCast] at x0 x1 x2
  have hz : (Int.toNat (i : Int)) = i := Int.toNat_natCast i
  have hcc : ∀ (j : Nat) (v : Value), [Value.string R[i].f0, Value.int .i64 R[i].f1, Value.bool R[i].f2][j]? = some v → W.cell? ⟨g, (i : Int).toNat * 3 + j, none⟩ = some v := fun j v hj => by
    rw [hz]
    rw [addA] at x0 x1 x2
    match j, hj with
    | 0, hj => cases hj; exact x0
    | 1, hj => cases hj; exact x1
    | 2, hj => cases hj; exact x2
  have hs := (Kd.R_seg (d := k53) h (i := (i : Int)) (j := 1) (c := [.string R[i].f0, .int .i64 R[i].f1, .bool R[i].f2]) (seg := [.int .i64 u]) (okp := fun _ => False) (x' := ⟨R[i].f0, u, R[i].f2⟩) (by omega) (by omega) rfl hcc (show 1 + 1 ≤ 3 by decide) (k53_mkM _ _ _ ⟨R[i].f0, u, R[i].f2⟩) (fun _ hk => hk.elim)).1
  rw [hz] at hs
  exact hs
set_option maxHeartbeats 16000000 in
theorem RResize.calls (r : Nat) (ok : Nat → Prop) (R : List Rs) (H : List Hd) (s : ByteArray) (n : Int) (w : World) (h : RefAt w r ok R H) (hgd : Good R H) (hokr : ¬ ok r) : Calls Try.prog 37 #[.pointer (some ⟨r, 0, none⟩), .string s, .int .i64 n] w fun e w' => e = .returned (.int .i64 (resizeE R s n)) ∧ RefAt w' r ok (resizeR R s n) H ∧ (Below w.heap.size w w' ∨ ∃ g, ok g ∧ (∃ cur, w.heap[g]? = some (.cells cur 53 (0, 0))) ∧ w.grownBy w' (some g)) := by
  have hU := RUnits.calls r ok R H s w h hgd.rlen
  obtain ⟨M, hM⟩ : ∃ M, resizeR R s n = M := ⟨_, rfl⟩
  obtain ⟨e0, he⟩ : ∃ e0, resizeE R s n = e0 := ⟨_, rfl⟩
  rw [hM, he]
  have HM := Aside0.mk hM
  have HE := Aside0.mk he
  have HP := Aside0.mk h
  clear hM he h
  by_cases hz : (unitsOf R s).2 = 0
  · obtain ⟨x, hf, hx2, hx0⟩ := units_ok hz
    have HE2 := Aside0.mk (show (if n < 0 ∨ 1000 < n then (6 : Int) else 0) = e0 by rw [← HE.out, resizeE, if_pos hz])
    rw [hz] at hU
    clear hz
    by_cases lo : n < 0
    · have t0 : decide (n < 0) = true := decide_eq_true lo
      have e6 : e0 = 6 := by rw [← HE2.out, if_pos (.inl lo)]
      have HMR := Aside0.mk (show R = M by rw [← HM.out, resizeR, HE.out, e6, if_neg (by decide)])
      clear lo
      subst e6
      go_enter Try.func37, Try.ntmps37
      go_wp2_with (go_at_call 23; refine hU.mono ?_; rintro e w1 ⟨rfl, d1⟩)
      go_ret
      exact ⟨rfl, by rw [← HMR.out]; exact HP.out.below d1.below, .inl d1.below⟩
    · have t0 : decide (n < 0) = false := decide_eq_false lo
      by_cases hi : 1000 < n
      · have t1 : decide (n > 1000) = true := decide_eq_true hi
        have t2 : decide (1000 < n) = true := decide_eq_true hi
        have e6 : e0 = 6 := by rw [← HE2.out, if_pos (.inr hi)]
        have HMR := Aside0.mk (show R = M by rw [← HM.out, resizeR, HE.out, e6, if_neg (by decide)])
        clear lo hi
        subst e6
        go_enter Try.func37, Try.ntmps37
        go_wp2_with (go_at_call 23; refine hU.mono ?_; rintro e w1 ⟨rfl, d1⟩)
        go_ret
        exact ⟨rfl, by rw [← HMR.out]; exact HP.out.below d1.below, .inl d1.below⟩
      · have t1 : decide (n > 1000) = false := decide_eq_false hi
        have t2 : decide (1000 < n) = false := decide_eq_false hi
        have e6 : e0 = 0 := by rw [← HE2.out, if_neg (by omega)]
        have HMR := Aside0.mk (show setU R s n = M by rw [← HM.out, resizeR, HE.out, e6, if_pos rfl])
        clear lo hi
        subst e6
        go_enter Try.func37, Try.ntmps37
        go_upto_region 6 with (go_at_call 23; refine hU.mono ?_; rintro e w1 ⟨rfl, d1⟩)
        have HB1 := Aside0.mk d1.below
        have hR1 := HP.out.below d1.below
        obtain ⟨A1, c1, A2, c2, kr0, hRR0, hRH0⟩ := HP.out.own
        have kr := blk_below kr0 d1.below
        have hRR := Kd.R_below hRR0 d1.below
        have hRH := Kd.R_below hRH0 d1.below
        have HKR := Aside0.mk kr
        have HRR := Aside0.mk hRR
        have HRH := Aside0.mk hRH
        obtain ⟨_, hc1, hC⟩ := Kd.R_reads' hRR
        have HC := Aside0.mk hC
        have hFs := fun (V : World) (hV : Below w1.heap.size w1 V) => findSome_calls r ok R H s V (hR1.below hV) hgd.rlen hf
        have HS : Aside0 (∀ V : World, Below w1.heap.size w1 V → V.cell? ⟨r, 0, none⟩ = some (.slice A1 R.length c1)) := ⟨fun V hV => blk_cell (blk_below kr hV) 0⟩
        have hopen : ∃ g cur, A1 = some ⟨g, 0, none⟩ ∧ ok g ∧ w.heap[g]? = some (.cells cur 53 (0, 0)) := by
          obtain ⟨h0, inner, ⟨hl, hv⟩, hr1, hr2⟩ := hRR0
          rcases hv with ⟨e, hn⟩ | ⟨g, cap, cur, e, hb, hg, h1, h2, h3, h4⟩
          · have hRn := List.length_eq_zero_iff.mp hn
            rw [hRn] at hf; cases hf
          · cases e
            exact ⟨g, cur, rfl, h0 g rfl, hg⟩
        obtain ⟨g, cur, rfl, hokg, hgw⟩ := hopen
        have hg0 := blk_below hgw d1.below
        have HGW := Aside0.mk hgw
        have hgr : g ≠ r := fun e => hokr (e ▸ hokg)
        have HGB := Aside0.mk hg0
        have s0 := HS.out w1 (Below.refl _ _)
        have hq := Below.refl w1.heap.size w1
        have HFR : Aside0 (∀ (V : World) (k : Nat), Below w1.heap.size w1 V → V.frozen? ⟨g, k, none⟩ = false) := ⟨fun V k hV => blk_frozen (blk_below hg0 hV) k⟩
        have HCL : Aside0 (∀ (V : World) (i : Nat) (hi : i < R.length), Below w1.heap.size w1 V → V.cell? ⟨g, i * 3 + 1, none⟩ = some (.int .i64 R[i].f1)) := ⟨fun V i hi hV => by
          obtain ⟨ad, e, x0, x1, x2⟩ := at_T53 HC.out (i : Int) (by omega) (by omega)
          cases e
          rw [rdrs_at R i hi, Int.toNat_natCast, addA] at x1
          exact (hV.cell (World.block_lt_of_cell? w1 _ x1)).trans x1⟩
        clear hC hRR hRH kr hR1 hU d1 hg0 kr0 hRR0 hRH0 hgw
        go_region_held3 (fun V => V.cell? ⟨r, 0, none⟩ = some (.slice (some ⟨g, 0, none⟩) R.length c1)) (first | exact HS.out _ hq | exact HS.out _ (below_drew1 hq) | exact HS.out _ q3 | exact (World.cell?_of_block (a := ⟨r, 0, none⟩) (Below.heap_setCell _ _ _ r (by simpa using hgr.symm))).trans (HS.out _ q3)) (first | (go_at_call 31; first | (refine (hFs _ hq).mono ?_; rintro e3 w3 ⟨⟨i, rfl, hi, hx⟩, d3⟩; have q3 := below_go hq hq.size d3.below; have f3 := HFR.out _ (i * 3 + 1) q3; have c3 := HCL.out _ i hi q3; have i1 : (0 : Int) ≤ (i : Int) := Int.natCast_nonneg i; have i2 : (i : Int) < (R.length : Int) := Int.ofNat_lt.mpr hi; have ia := addA g (i * 3); clear d3) | (refine (hFs _ (below_drew1 hq)).mono ?_; rintro e3 w3 ⟨⟨i, rfl, hi, hx⟩, d3⟩; have q3 := below_go (below_drew1 hq) (below_drew1 hq).size d3.below; have f3 := HFR.out _ (i * 3 + 1) q3; have c3 := HCL.out _ i hi q3; have i1 : (0 : Int) ≤ (i : Int) := Int.natCast_nonneg i; have i2 : (i : Int) < (R.length : Int) := Int.ofNat_lt.mpr hi; have ia := addA g (i * 3); clear d3)))
        go_wp2
        go_ret
        have hMs : R.set i ⟨R[i].f0, n, R[i].f2⟩ = M := by rw [← HMR.out]; exact (setU_set hgd.rap hi (by rw [hx]; exact hx0)).symm
        have hk3 := blk_below HKR.out q3
        have hg3 := blk_below HGB.out q3
        have hrow := row_sized n (Kd.R_below HRR.out q3) hi
        refine ⟨rfl, ?_, .inr ⟨g, hokg, ⟨cur, HGW.out⟩, (below_grown (HB1.out.trans (q3.mono HB1.out.size)) (some g)).andThen (row' := some g) ⟨rfl, rfl, rfl, by simp [World.setCell], fun k hk hne => Below.heap_setCell w3 ⟨g, i * 3 + 1, none⟩ _ k (by simpa using hne)⟩ (fun j hj => .inr hj)⟩⟩
        rw [← hMs]
        exact ⟨some ⟨g, 0, none⟩, c1, A2, c2, by rw [List.length_set]; exact (Below.heap_setCell w3 ⟨g, i * 3 + 1, none⟩ _ r (by simpa using hgr.symm)).trans hk3, by rw [List.length_set]; exact hrow, Kd.R_set (Kd.R_below HRH.out q3) hg3 (fun q hq => by have hq2 : q ∈ [55] := hq; rw [List.mem_singleton] at hq2; rw [hq2]; decide) _ _⟩
  · have HE2 := Aside0.mk (show (unitsOf R s).2 = e0 by rw [← HE.out, resizeE, if_neg hz])
    have HMR := Aside0.mk (show R = M by rw [← HM.out, resizeR, HE.out, ← HE2.out, if_neg hz])
    have n0 : ((unitsOf R s).2 == 0) = false := beq_eq_false_iff_ne.mpr hz
    generalize (unitsOf R s).2 = v at *
    go_enter Try.func37, Try.ntmps37
    go_wp2_with (go_at_call 23; refine hU.mono ?_; rintro e w1 ⟨rfl, d1⟩)
    go_ret
    exact ⟨by rw [← HE2.out]; rfl, by rw [← HMR.out]; exact HP.out.below d1.below, .inl d1.below⟩
end Go.Proofs.Ytgepalpcaphbeaa.QPoolPlays
