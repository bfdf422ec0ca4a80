/- The law NeedBoth, walked: for all resources and needs it comes to true. Each theorem names its own conditions. -/
import Derived.Test.YtgdnljhndjlefaaQNeedFitsNeedLaw
namespace Go.Proofs.Ytgdnljhndjlefaa.QNeedFits
open Go.RowKit Go.Proofs.Ytgdnljhndjlefaa.PNeedFits Go.Proofs.YtgdnljhndjlefaaW.PrintWords Go.Proofs.YtgdnljhndjlefaaW.PrintLast Go.Proofs.YtgdnljhndjlefaaW.PrintMore Go.Proofs.Ytgdnljhndjlefaa.MMaps
set_option linter.unusedVariables false
set_option linter.unusedSimpArgs false
set_option maxRecDepth 100000
set_option maxHeartbeats 32000000 in
theorem both_walk (A0 : Option Addr) (c0 : Nat) (l : List Rs) (A1 : Option Addr) (c1 : Nat) (F : List Nr) (A2 : Option Addr) (c2 : Nat) (S : List Nr) (w : World) (hl : Kd.C k47 w A0 l.length l) (hlc : l.length ≤ c0) (hlw : ∀ r ∈ l, wfR r) (hll : l.length ≤ 4398046511100)
    (hF : Kd.C k80 w A1 F.length F) (hFc : F.length ≤ c1) (hFw : ∀ n ∈ F, wfN n) (hFl : F.length ≤ 4398046511100) (hS : Kd.C k80 w A2 S.length S) (hSc : S.length ≤ c2) (hSw : ∀ n ∈ S, wfN n) (hSl : S.length ≤ 4398046511100) :
    Calls Try.prog 4 #[.slice A0 l.length c0, .slice A1 F.length c1, .slice A2 S.length c2] w fun e w' => e = .returned (.bool true) ∧ Below w.heap.size w w' := by
  have hk := fun (W : World) => known.calls W
  have HF := Aside0.mk hF
  have HS := Aside0.mk hS
  have HL := Aside0.mk hl
  clear hF hS hl
  rcases more_than l.length 20 with ⟨z1, b1, b2⟩ | ⟨z1, b1, b2⟩
  · go_enter Try.func4, Try.ntmps4
    go_wp2_with (go_at_call 8; refine (hk _).mono ?_; rintro e w1 ⟨rfl, b⟩)
    go_ret
    exact ⟨rfl, b⟩
  rcases more_than F.length 20 with ⟨z2, b3, b4⟩ | ⟨z2, b3, b4⟩
  · go_enter Try.func4, Try.ntmps4
    go_wp2_with (go_at_call 8; refine (hk _).mono ?_; rintro e w1 ⟨rfl, b⟩)
    go_ret
    exact ⟨rfl, b⟩
  rcases more_than S.length 20 with ⟨z3, b5, b6⟩ | ⟨z3, b5, b6⟩
  · go_enter Try.func4, Try.ntmps4
    go_wp2_with (go_at_call 8; refine (hk _).mono ?_; rintro e w1 ⟨rfl, b⟩)
    go_ret
    exact ⟨rfl, b⟩
  have hres := res.calls A0 c0 l w HL.out hlc (by omega)
  have hRl := poolR_len l
  go_enter Try.func4, Try.ntmps4
  go_upto_region 6 with (first
    | (go_at_call 10; refine hres.mono ?_; rintro e w1 ⟨v, rfl, hR1, hB1⟩; obtain ⟨A3, k3, e2, hk3, hC3⟩ := Kd.R_reads hR1; rw [List.length_map] at e2 hk3; subst e2; clear hR1 hres)
    | (go_at_call 9; refine (New.of A3 k3 l w1 hC3 hk3 hlw (by omega)).mono ?_; rintro e w2 ⟨p, bt, bh, rfl, hp, hbt, hbh, hP, hB2⟩; have hq := below_go hB1 hB1.size hB2; clear hC3 hp hbt hbh hB2 hB1))
  clear HL b1 b2 b3 b4 b5 b6
  generalize poolR l = R at *
  have hN1 := fun (V : World) (hV : Below w.heap.size w V) => needs.calls A1 c1 F V (Kd.C_below HF.out hV) hFc (by omega)
  have hN2 := fun (V : World) (hV : Below w.heap.size w V) => needs.calls A2 c2 S V (Kd.C_below HS.out hV) hSc (by omega)
  have hB1 := fun (V : World) A c A' c' (hV : PoolAt V p bt bh R []) hC hc hC' hc' => Both.of p bt bh R [] A c F A' c' S V hV hC hc hFw hFl hC' hc' hSw hSl (by omega)
  have hB2 := fun (V : World) A c A' c' (hV : PoolAt V p bt bh R []) hC hc hC' hc' => Both.of p bt bh R [] A c S A' c' F V hV hC hc hSw hSl hC' hc' hFw hFl (by omega)
  have hF1 := fun (V : World) A c (hV : PoolAt V p bt bh R []) hC hc => Fits.of p bt bh R [] A c F V hV hC hc hFw hFl
  have hF2 := fun (V : World) A c (hV : PoolAt V p bt bh R []) hC hc => Fits.of p bt bh R [] A c S V hV hC hc hSw hSl
  have hfit : bothOf R (ndL F) (ndL S) = true → fitsOf R (ndL F) = 0 ∧ fitsOf R (ndL S) = 0 := both_fits
  rw [both_comm R (ndL S) (ndL F)] at hB2
  generalize bothOf R (ndL F) (ndL S) = x at *
  generalize fitsOf R (ndL F) = f1 at *
  generalize fitsOf R (ndL S) = f2 at *
  rcases more_than0 F.length with ⟨z4, b1, b2⟩ | ⟨z4, b1, b2⟩ <;> rcases more_than0 S.length with ⟨z5, b3, b4⟩ | ⟨z5, b3, b4⟩ <;> cases x
  all_goals
    try (obtain ⟨rfl, rfl⟩ := hfit rfl)
    clear hfit
    go_wp2_with (first
      | (go_at_call 13; first
        | ((with_reducible refine (hN1 _ hq).mono ?_); rintro e x ⟨v, rfl, hR, hB⟩; obtain ⟨AF, kF, eF, hkF, hCF⟩ := Kd.R_reads hR; rw [List.length_map] at eF hkF; subst eF; (try (have c9 := Kd.C_below hCS hB; clear hCS; have hCS := c9; clear c9)); have q9 := below_go hq hq.size hB; have p9 := hP.below hB; clear hq hP hR hB; have hq := q9; have hP := p9; clear q9 p9)
        | ((with_reducible refine (hN2 _ hq).mono ?_); rintro e x ⟨v, rfl, hR, hB⟩; obtain ⟨AS, kS, eS, hkS, hCS⟩ := Kd.R_reads hR; rw [List.length_map] at eS hkS; subst eS; (try (have c9 := Kd.C_below hCF hB; clear hCF; have hCF := c9; clear c9)); have q9 := below_go hq hq.size hB; have p9 := hP.below hB; clear hq hP hR hB; have hq := q9; have hP := p9; clear q9 p9))
      | (go_at_call 18; first
        | ((with_reducible refine (hB1 _ _ _ _ _ hP hCF hkF hCS hkS).mono ?_); rintro e x ⟨rfl, hB⟩; have q9 := below_go hq hq.size hB; have p9 := hP.below hB; clear hq hP hB hCF hCS; have hq := q9; have hP := p9; clear q9 p9)
        | ((with_reducible refine (hB2 _ _ _ _ _ hP hCS hkS hCF hkF).mono ?_); rintro e x ⟨rfl, hB⟩; have q9 := below_go hq hq.size hB; have p9 := hP.below hB; clear hq hP hB hCF hCS; have hq := q9; have hP := p9; clear q9 p9))
      | (go_at_call 16; first
        | ((with_reducible refine (hF1 _ _ _ hP hCF hkF).mono ?_); rintro e x ⟨rfl, hB⟩; have q9 := below_go hq hq.size hB; have p9 := hP.below hB; clear hq hP hB hCF; have hq := q9; have hP := p9; clear q9 p9)
        | ((with_reducible refine (hF2 _ _ _ hP hCS hkS).mono ?_); rintro e x ⟨rfl, hB⟩; have q9 := below_go hq hq.size hB; have p9 := hP.below hB; clear hq hP hB hCS; have hq := q9; have hP := p9; clear q9 p9))
      | (go_at_call 8; refine (hk _).mono ?_; rintro e x ⟨rfl, hB⟩; have q9 := below_go hq hq.size hB; clear hq hB; have hq := q9; clear q9))
    go_ret
    exact ⟨rfl, hq⟩
end Go.Proofs.Ytgdnljhndjlefaa.QNeedFits
