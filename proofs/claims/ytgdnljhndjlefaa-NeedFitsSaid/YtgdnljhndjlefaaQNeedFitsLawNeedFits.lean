/- The law NeedFits, walked: for all resources and needs it comes to true. Each theorem names its own conditions. -/
import Derived.Test.YtgdnljhndjlefaaQNeedFitsNeedLaw
namespace Go.Proofs.Ytgdnljhndjlefaa.QNeedFits
open Go.RowKit Go.Proofs.Ytgdnljhndjlefaa.PNeedFits Go.Proofs.YtgdnljhndjlefaaW.PrintWords Go.Proofs.YtgdnljhndjlefaaW.PrintLast Go.Proofs.YtgdnljhndjlefaaW.PrintMore Go.Proofs.Ytgdnljhndjlefaa.MMaps
set_option linter.unusedVariables false
set_option linter.unusedSimpArgs false
set_option maxRecDepth 100000
set_option maxHeartbeats 32000000 in
theorem fits_walk (A0 : Option Addr) (c0 : Nat) (l : List Rs) (A1 : Option Addr) (c1 : Nat) (E : List Nr) (A2 : Option Addr) (c2 : Nat) (F : List Nr) (A3 : Option Addr) (c3 : Nat) (S : List Nr) (w : World) (hl : Kd.C k47 w A0 l.length l) (hlc : l.length ≤ c0) (hlw : ∀ r ∈ l, wfR r) (hll : l.length ≤ 4398046511100)
    (hE : Kd.C k80 w A1 E.length E) (hEc : E.length ≤ c1) (hEw : ∀ n ∈ E, wfN n) (hEl : E.length ≤ 4398046511100) (hF : Kd.C k80 w A2 F.length F) (hFc : F.length ≤ c2) (hFw : ∀ n ∈ F, wfN n) (hFl : F.length ≤ 4398046511100) (hS : Kd.C k80 w A3 S.length S) (hSc : S.length ≤ c3) (hSw : ∀ n ∈ S, wfN n) (hSl : S.length ≤ 4398046511100) :
    Calls Try.prog 3 #[.slice A0 l.length c0, .slice A1 E.length c1, .slice A2 F.length c2, .slice A3 S.length c3] w fun e w' => e = .returned (.bool true) ∧ Below w.heap.size w w' := by
  have hk := fun (W : World) => known.calls W
  have HE := Aside0.mk hE
  have HF := Aside0.mk hF
  have HS := Aside0.mk hS
  have HL := Aside0.mk hl
  clear hE hF hS hl
  rcases more_than l.length 20 with ⟨z1, b1, b2⟩ | ⟨z1, b1, b2⟩
  · go_enter Try.func3, Try.ntmps3
    go_wp2_with (go_at_call 8; refine (hk _).mono ?_; rintro e w1 ⟨rfl, b⟩)
    go_ret
    exact ⟨rfl, b⟩
  rcases more_than E.length 20 with ⟨z2, b3, b4⟩ | ⟨z2, b3, b4⟩
  · go_enter Try.func3, Try.ntmps3
    go_wp2_with (go_at_call 8; refine (hk _).mono ?_; rintro e w1 ⟨rfl, b⟩)
    go_ret
    exact ⟨rfl, b⟩
  rcases more_than F.length 20 with ⟨z3, b5, b6⟩ | ⟨z3, b5, b6⟩
  · go_enter Try.func3, Try.ntmps3
    go_wp2_with (go_at_call 8; refine (hk _).mono ?_; rintro e w1 ⟨rfl, b⟩)
    go_ret
    exact ⟨rfl, b⟩
  rcases more_than S.length 20 with ⟨z4, b7, b8⟩ | ⟨z4, b7, b8⟩
  · go_enter Try.func3, Try.ntmps3
    go_wp2_with (go_at_call 8; refine (hk _).mono ?_; rintro e w1 ⟨rfl, b⟩)
    go_ret
    exact ⟨rfl, b⟩
  have hres := res.calls A0 c0 l w HL.out hlc (by omega)
  have hRl := poolR_len l
  go_enter Try.func3, Try.ntmps3
  go_upto_region 7 with (first
    | (go_at_call 10; refine hres.mono ?_; rintro e w1 ⟨v, rfl, hR1, hB1⟩; obtain ⟨A4, k4, e2, hk4, hC4⟩ := Kd.R_reads hR1; rw [List.length_map] at e2 hk4; subst e2; clear hR1 hres)
    | (go_at_call 9; refine (New.of A4 k4 l w1 hC4 hk4 hlw (by omega)).mono ?_; rintro e w2 ⟨p, bt, bh, rfl, hp, hbt, hbh, hP2, hB2⟩; have q2 := below_go hB1 hB1.size hB2; have hpb := Nat.le_trans hB1.size hp; have hbtb := Nat.le_trans hB1.size hbt; have hbhb := Nat.le_trans hB1.size hbh; clear hC4 hp hbt hbh hB2 hB1)
    | (go_at_call 11; refine (RNew.calls A0 c0 l w2 (Kd.C_below HL.out q2) hlc (by omega)).mono ?_; rintro e w3 ⟨rfl, hR3, hB3⟩; have hP3 := hP2.below hB3; have q3 := below_go q2 q2.size hB3))
  have hltp := hP2.ltp
  have hltt := hP2.things.lt
  have hlth := hP2.held.lt
  have hr3 := hR3.lt
  have q2s := q2.size
  have hgd := hP2.good
  clear hP2 hB3 q2 HL b1 b2 b3 b4 b5 b6 b7 b8
  have hwr : w.heap.size ≤ w2.heap.size := q2s
  generalize w2.heap.size = r at *
  generalize poolR l = R at *
  have hN0 := fun (V : World) (hV : Below w.heap.size w V) => needs.calls A1 c1 E V (Kd.C_below HE.out hV) hEc (by omega)
  have hRT := fun (V : World) (h1 : RefAt V r (fun k => r < k) R []) (h2 : Below w.heap.size w V) (h3 : r < V.heap.size) => RTake.calls r (fun k => r < k) R [] 9 A1 c1 E V h1 hgd (Kd.C_below HE.out h2) hEc (by omega) (fun _ => by simp; omega) (fun k hk => by omega) (by omega)
  go_upto_region 9 with (first
    | (go_at_call 13; refine (hN0 _ q3).mono ?_; rintro e w4 ⟨v, rfl, hR4, hB4⟩; obtain ⟨A5, k5, e4, hk5, hC5⟩ := Kd.R_reads hR4; rw [List.length_map] at e4 hk5; subst e4; clear hR4)
    | (go_at_call 12; refine (Take.of p bt bh R [] 9 A5 k5 E w4 (hP3.below hB4) hC5 hk5 hEw (by decide) (by omega) (by simp; omega)).mono ?_; rintro e w5 ⟨rfl, hP5, hg5⟩; have q4 := below_go q3 q3.size hB4; have q5 : Below w.heap.size w w5 := q4.trans (grown_below hg5 hbhb q4.size); have hR5 := (hR3.below hB4).grown hg5 (by simp; omega) (fun k hk => by simp; omega); have hr5 : r < w5.heap.size := Nat.lt_of_lt_of_le hr3 (Nat.le_trans hB4.size hg5.size); clear hC5)
    | (go_at_call 14; refine (hRT w5 hR5 q5 hr5).mono ?_; rintro e w6 ⟨rfl, hR6, hg6⟩))
  have hP := hP5.kept hg6 (by simp; omega) (by simp; omega) (by simp; omega)
  have hq : Below w.heap.size w w6 := q5.trans (grown_below hg6 hwr q5.size)
  clear hP5 hR5 hg5 hB4 q4 q5 hg6 hR3 hP3 q3 hr3 hN0 hRT hr5
  have hRf := hR6
  clear hR6
  generalize takeOf R [] 9 (ndL E) = H1 at *
  have hN1 := fun (V : World) (hV : Below w.heap.size w V) => needs.calls A2 c2 F V (Kd.C_below HF.out hV) hFc (by omega)
  have hN2 := fun (V : World) (hV : Below w.heap.size w V) => needs.calls A3 c3 S V (Kd.C_below HS.out hV) hSc (by omega)
  have hB1 := fun (V : World) A c A' c' (hV : PoolAt V p bt bh R H1) hC hc hC' hc' => Both.of p bt bh R H1 A c F A' c' S V hV hC hc hFw hFl hC' hc' hSw hSl (by omega)
  have hF1 := fun (V : World) A c (hV : PoolAt V p bt bh R H1) hC hc => Fits.of p bt bh R H1 A c F V hV hC hc hFw hFl
  have hRF := fun (V : World) (h1 : RefAt V r (fun k => r < k) R H1) (h2 : Below w.heap.size w V) => RFits.calls r (fun k => r < k) R H1 A2 c2 F V h1 hgd (Kd.C_below HF.out h2) hFc (by omega)
  have hRB := fun (V : World) (h1 : RefAt V r (fun k => r < k) R H1) (h2 : Below w.heap.size w V) => RBoth.calls r (fun k => r < k) R H1 A2 c2 F A3 c3 S V h1 hgd (Kd.C_below HF.out h2) hFc (by omega) (Kd.C_below HS.out h2) hSc (by omega) (by omega) (fun K hK => by rw [← hK]; exact take_good' hgd (by decide) (by simp; omega) (toN_wf hFw))
  have hLs := fun (V : World) (hV : PoolAt V p bt bh R H1) => List.calls p bt bh R H1 V hV
  generalize bothOf R (ndL F) (ndL S) = x at *
  generalize fitsOf R (ndL F) = f1 at *
  have t1 : (f1 == f1) = true := beq_self_eq_true _
  have t2 : (x == x) = true := beq_self_eq_true _
  have t3 : ((H1.length : Int) == (H1.length : Int)) = true := beq_self_eq_true _
  go_wp2_with (first
      | (go_at_call 13; first
        | ((with_reducible refine (hN1 _ hq).mono ?_); rintro e x ⟨v, rfl, hR, hB⟩; obtain ⟨AF, kF, eF, hkF, hCF⟩ := Kd.R_reads hR; rw [List.length_map] at eF hkF; subst eF; (try (have c9 := Kd.C_below hCS hB; clear hCS; have hCS := c9; clear c9)); have q9 := below_go hq hq.size hB; have p9 := hP.below hB; have r9 := hRf.below hB; clear hq hP hRf hR hB; have hq := q9; have hP := p9; have hRf := r9; clear q9 p9 r9)
        | ((with_reducible refine (hN2 _ hq).mono ?_); rintro e x ⟨v, rfl, hR, hB⟩; obtain ⟨AS, kS, eS, hkS, hCS⟩ := Kd.R_reads hR; rw [List.length_map] at eS hkS; subst eS; (try (have c9 := Kd.C_below hCF hB; clear hCF; have hCF := c9; clear c9)); have q9 := below_go hq hq.size hB; have p9 := hP.below hB; have r9 := hRf.below hB; clear hq hP hRf hR hB; have hq := q9; have hP := p9; have hRf := r9; clear q9 p9 r9))
      | (go_at_call 15; (with_reducible refine (hLs _ hP).mono ?_); rintro e x ⟨v, rfl, hR, hB⟩; obtain ⟨AL, kL, eL, _, _⟩ := Kd.R_reads hR; rw [List.length_map] at eL; subst eL; have q9 := below_go hq hq.size hB; have p9 := hP.below hB; have r9 := hRf.below hB; clear hq hP hRf hR hB; have hq := q9; have hP := p9; have hRf := r9; clear q9 p9 r9)
      | (go_at_call 18; first
        | ((with_reducible refine (hB1 _ _ _ _ _ hP hCF hkF hCS hkS).mono ?_); rintro e x ⟨rfl, hB⟩; have q9 := below_go hq hq.size hB; have p9 := hP.below hB; have r9 := hRf.below hB; clear hq hP hRf hB hCF hCS; have hq := q9; have hP := p9; have hRf := r9; clear q9 p9 r9)
        | ((with_reducible refine (Both.calls_nil _ _ _).mono ?_); rintro e x ⟨rfl, hD⟩; have q9 := below_go hq hq.size hD.below; clear hq hD; have hq := q9; clear q9))
      | (go_at_call 16; first
        | ((with_reducible refine (hF1 _ _ _ hP hCF hkF).mono ?_); rintro e x ⟨rfl, hB⟩; have q9 := below_go hq hq.size hB; have p9 := hP.below hB; have r9 := hRf.below hB; clear hq hP hRf hB hCF; have hq := q9; have hP := p9; have hRf := r9; clear q9 p9 r9)
        | ((with_reducible refine (Fits.calls_nil _ _).mono ?_); rintro e x ⟨rfl, hD⟩; have q9 := below_go hq hq.size hD.below; clear hq hD; have hq := q9; clear q9))
      | (go_at_call 17; (with_reducible refine (hRF _ hRf hq).mono ?_); rintro e x ⟨rfl, hB⟩; have q9 := below_go hq hq.size hB; have p9 := hP.below hB; have r9 := hRf.below hB; clear hq hP hRf hB; have hq := q9; have hP := p9; have hRf := r9; clear q9 p9 r9)
      | (go_at_call 19; (with_reducible refine (hRB _ hRf hq).mono ?_); rintro e x ⟨rfl, hB⟩; have q9 := below_go hq hq.size hB; have p9 := hP.below hB; have r9 := hRf.below hB; clear hq hP hRf hB; have hq := q9; have hP := p9; have hRf := r9; clear q9 p9 r9)
      | (go_at_call 8; refine (hk _).mono ?_; rintro e x ⟨rfl, hB⟩; have q9 := below_go hq hq.size hB; clear hq hB; have hq := q9; clear q9))
  go_ret
  exact ⟨rfl, hq⟩
end Go.Proofs.Ytgdnljhndjlefaa.QNeedFits
