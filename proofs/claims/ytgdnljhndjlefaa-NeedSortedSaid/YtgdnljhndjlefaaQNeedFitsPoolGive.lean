/- All that an owner holds is given. No conditions beyond those that each theorem names. -/
import Derived.Test.YtgdnljhndjlefaaQNeedFitsPoolTake
namespace Go.Proofs.Ytgdnljhndjlefaa.QNeedFits
open Go.RowKit Go.Proofs.Ytgdnljhndjlefaa.PNeedFits Go.Proofs.YtgdnljhndjlefaaW.PrintWords Go.Proofs.YtgdnljhndjlefaaW.PrintLast Go.Proofs.YtgdnljhndjlefaaW.PrintMore Go.Proofs.Ytgdnljhndjlefaa.MMaps
set_option linter.unusedVariables false
set_option linter.unusedSimpArgs false
set_option maxRecDepth 100000
/-- What is held still, as long as some are to come. -/
noncomputable def restH (o : Int) (H : List Hd) (left : Lit → Bool) : List Hd := H.filter fun h => !decide (h.f0 = o) || left (KK.kl (kf h))
theorem restH_start (o : Int) {H : List Hd} {left : Lit → Bool} (hl : ∀ h ∈ H, left (KK.kl (kf h)) = true) : restH o H left = H := by
  unfold restH
  rw [List.filter_eq_self]
  intro c hc
  rw [hl c hc, Bool.or_true]
theorem restH_end (o : Int) (H : List Hd) {left : Lit → Bool} (hl : ∀ k, left k = false) : restH o H left = giveOf H o := by
  unfold restH giveOf
  exact List.filter_congr (fun c _ => by rw [hl, Bool.or_false])
theorem restH_stays {o : Int} {H : List Hd} (hw : ∀ h ∈ H, wfK (kf h)) (ha : H.Pairwise fun a b => kf a ≠ kf b) (left : Lit → Bool) {x : Hd} (hx : x ∈ H) (hp : x.f0 ≠ o) : restH o H (fun z => left z && !z.sameKey (KK.kl (kf x))) = restH o H left := by
  unfold restH
  refine List.filter_congr (fun c hc => ?_)
  by_cases e : kf c = kf x
  · have := kf_inj ha hx hc e
    subst this
    rw [decide_eq_false hp]; simp
  · dsimp only; rw [KK.other (hw c hc) (hw x hx) e]; simp
theorem restH_struck {o : Int} {H : List Hd} (hw : ∀ h ∈ H, wfK (kf h)) (ha : H.Pairwise fun a b => kf a ≠ kf b) (left : Lit → Bool) {x : Hd} (hx : x ∈ H) (hp : x.f0 = o) : restH o H (fun z => left z && !z.sameKey (KK.kl (kf x))) = (restH o H left).filter (fun h => !isK (kf x) h) := by
  unfold restH
  rw [List.filter_filter]
  refine List.filter_congr (fun c hc => ?_)
  by_cases e : kf c = kf x
  · have := kf_inj ha hx hc e
    subst this
    dsimp only
    rw [decide_eq_true hp, KK.self (hw c hx), isK_iff.mpr rfl]
    simp
  · dsimp only
    rw [KK.other (hw c hc) (hw x hx) e, show isK (kf x) c = false by rw [← Bool.not_eq_true, isK_iff]; exact e]
    simp
theorem less_one {x : Hd} : ∀ {M : List Hd}, (M.Pairwise fun a b => kf a ≠ kf b) → x ∈ M → (M.filter fun h => !isK (kf x) h).length + 1 = M.length
  | [], _, h => by cases h
  | y :: r, ha, h => by
    obtain ⟨h1, h2⟩ := List.pairwise_cons.mp ha
    rcases List.mem_cons.mp h with e | e
    · subst e
      rw [List.filter_cons, if_neg (by rw [isK_iff.mpr rfl]; simp), List.filter_eq_self.mpr]
      · rfl
      · intro z hz
        have : isK (kf x) z = false := by rw [← Bool.not_eq_true, isK_iff]; exact fun q => h1 z hz q.symm
        rw [this]; rfl
    · have q : isK (kf x) y = false := by rw [← Bool.not_eq_true, isK_iff]; exact h1 x e
      rw [List.filter_cons, if_pos (by rw [q]; rfl), List.length_cons, List.length_cons, less_one h2 e]
theorem restH_sort {o : Int} {H : List Hd} (hs : SortH H) (left : Lit → Bool) : SortH (restH o H left) := hs.filter _
theorem restH_mem {o : Int} {H : List Hd} {left : Lit → Bool} {x : Hd} (h : x ∈ restH o H left) : x ∈ H := (List.mem_filter.mp h).1
theorem fH_less {M : List Hd} (hs : SortH M) (x : Hd) : fH (M.filter fun h => !isK (kf x) h) (kf x) = none ∧ ∀ d, d ≠ kf x → fH (M.filter fun h => !isK (kf x) h) d = fH M d := by
  refine ⟨fH_none (fun z hz e => ?_), fun d hd => fH_filter hs _ d (fun z hz e => ?_)⟩
  · have := (List.mem_filter.mp hz).2
    rw [isK_iff.mpr e] at this
    cases this
  · have : isK (kf x) z = false := by rw [← Bool.not_eq_true, isK_iff, e]; exact hd
    rw [this]; rfl
theorem give_good {R : List Rs} {H : List Hd} (h : Good R H) (o : Int) : Good R (giveOf H o) :=
  ⟨h.rlen, h.rwf, h.rap, h.sorted.filter _, fun x hx => h.hwf x (List.mem_filter.mp hx).1, Nat.le_trans (List.length_filter_le _ _) h.hlen⟩
set_option maxHeartbeats 8000000 in
theorem Give.calls_nil (o : Int) (w : World) : Calls Try.prog 55 #[.pointer none, .int .i64 o] w fun e w' => e = .returned (.int .i64 0) ∧ Drawn0 w w' := by
  go_enter Try.func55, Try.ntmps55
  go_wp2
  go_ret
  exact ⟨rfl, Drawn0.refl _⟩
set_option maxHeartbeats 16000000 in
theorem Give.calls (p bt bh : Nat) (R : List Rs) (H : List Hd) (o : Int) (w : World) (h : PoolAt w p bt bh R H) :
    Calls Try.prog 55 #[.pointer (some ⟨p, 0, none⟩), .int .i64 o] w fun e w' => e = .returned (.int .i64 ((H.length : Int) - ((giveOf H o).length : Int))) ∧ PoolAt w' p bt bh R (giveOf H o) ∧ w.grownBy w' (some bh) := by
  have HP := Aside0.mk h
  have HG := Aside0.mk h.good
  have c1 : w.cell? ⟨p, 1, none⟩ = some (.map (some bh)) := blk_cell h.cell 1
  obtain ⟨D0, hown, hsays, hsz⟩ := h.held.own
  have hpb : some p ≠ some bh := by simpa using h.neh
  have HSY := Aside0.mk hsays
  have hst : ∀ h ∈ H, Go.Maps.has D0 (KK.kl (kf h)) = true := fun h hh => by rw [hsays.has_ _ (HG.out.hwf h hh).1, fH_own HG.out.sorted.apart hh]; rfl
  have hbl := h.held.lt
  have hln := HG.out.hlen
  clear h hsays
  go_enter Try.func55, Try.ntmps55
  go_wp2_with (first
    | (at_range; refine wpList_range_own _ rfl _ 66 rfl 79 52 KK.law Try.underlying66 RV bh H.length D0 rfl hown ?_; intro w0 hrg0 hg0 hs0)
    | go_in)
  go_frame
  go_loopg [5] H.length (fun gg v5 wr => ∃ (left : Lit → Bool) (cnt : Nat) (D : DataW Value), v5 = .int .i64 ((H.length : Int) - ((restH o H left).length : Int)) ∧ Aside0 (wr.ranges Try.prog 79 RV bh w.heap.size H.length D left cnt) ∧ Aside0 (Says KK D (fH (restH o H left))) ∧ Aside0 (Go.Maps.size D = (restH o H left).length) ∧ Aside0 (w.grownBy wr (some bh)) ∧ Aside0 (cnt ≤ gg))
  case atStart =>
    refine ⟨_, _, D0, ?_, ⟨hrg0⟩, ⟨?_⟩, ⟨?_⟩, ⟨hg0.but _⟩, ⟨?_⟩⟩
    · rw [restH_start o hst, Int.sub_self]
    · rw [restH_start o hst]; exact HSY.out
    · rw [restH_start o hst]; exact hsz
    · rw [hsz]; exact Nat.le_refl _
  case round =>
    obtain ⟨left, cnt, D, rfl, HRG, HD, HZ, HGR, HCN⟩ := hrel
    have hrg := HRG.out
    clear hown
    have hsays := HD.out
    go_wp2_with (first
      | (at_next; refine next_key KK rfl _ rfl bh w.heap.size H.length D (fH (restH o H left)) hsays left cnt rfl hrg ?_ ?_)
      | go_in)
    · intro _ hl0
      go_wp2
      go_ret
      have e := restH_end o H hl0
      have hs9 := HZ.out
      rw [e] at hs9 hsays
      refine ⟨by rw [← e]; rfl, ⟨(HGR.out.block p HP.out.ltp hpb).trans HP.out.cell, HP.out.things.kept HGR.out (by simpa using HP.out.ne), ⟨D, ?_, hsays, hs9⟩, HP.out.ne, give_good HG.out o⟩, HGR.out⟩
      rw [← hs9]
      exact own_tight hrg.owns
    · intro x v w2 cnt2 hcame hen
      obtain ⟨y, hy, rfl, rfl⟩ := fH_mem hcame.mem
      have hyH := restH_mem hy
      have ekv : KK.kv (kf y) = .agg #[.int .i64 y.f0, .string y.f1] := rfl
      rw [ekv] at hen ⊢
      have HCM := Aside0.mk hcame
      have HY := Aside0.mk hy
      have HYH := Aside0.mk hyH
      have hgw : w.grownBy w2 (some bh) := HGR.out.andThen hcame.grown (fun j hj => by cases hj; exact .inl (Nat.le_refl _))
      have HGW := Aside0.mk hgw
      have hz1 : w2.cell? ⟨p, 1, none⟩ = some (.map (some bh)) := (World.cell?_of_block (w := w) (hgw.block p HP.out.ltp hpb)).trans c1
      have HZ1 := Aside0.mk hz1
      clear hcame hrg HRG ekv hgw hy hyH
      generalize nv y = vy at hen ⊢
      have hM : (restH o H left).length ≤ H.length := List.length_filter_le _ _
      have hw1 : ∀ h ∈ H, wfK (kf h) := fun h hh => (HG.out.hwf h hh).1
      generalize hM2 : (restH o H left).length = m at hM ⊢
      have HM2 := Aside0.mk hM2
      clear hM2
      by_cases hq : y.f0 = o
      · have t1 : (y.f0 == o) = true := beq_iff_eq.mpr hq
        have hlast := less_one (restH_sort HG.out.sorted left).apart HY.out
        rw [← restH_struck hw1 HG.out.sorted.apart left HYH.out hq, HM2.out] at hlast
        have HQ := Aside0.mk hq
        have HLS := Aside0.mk hlast
        clear hq hlast hst
        go_upto_region 8 with (fail)
        obtain ⟨V, hV⟩ : ∃ V, V = w2.alloc (.cells #[.int .i64 y.f0, .string y.f1] 79 (0, 0)) := ⟨_, rfl⟩
        have hbV : Below w2.heap.size w2 V := by rw [hV]; exact below_alloc (Below.refl _ _) _
        have kb : V.heap[w2.heap.size]? = some (.cells #[.int .i64 y.f0, .string y.f1] 79 (0, 0)) := by rw [hV]; exact blk_new _ _
        rw [← hV]
        clear hV
        have y0 : V.cell? ⟨w2.heap.size, 0, none⟩ = some (.int .i64 y.f0) := blk_cell kb 0
        have y1 : V.cell? ⟨w2.heap.size, 1, none⟩ = some (.string y.f1) := blk_cell kb 1
        have y2 : V.cell? ⟨p, 1, none⟩ = some (.map (some bh)) := (hbV.cell (p := ⟨p, 1, none⟩) (World.block_lt_of_cell? _ _ HZ1.out)).trans HZ1.out
        have hrgd : V.drew.ranges Try.prog 79 RV bh w.heap.size H.length D (fun z => left z && !z.sameKey (KK.kl (kf y))) cnt2 := HCM.out.ranges.kept (w' := V.drew) (row := none) ⟨hbV.os, hbV.tape, hbV.output, hbV.size, fun k hk _ => hbV.block k hk⟩ (by simp) (by simp)
        have hkl := KK.key HCM.out.wf
        have HG2 := Aside0.mk (show w.grownBy V (some bh) from HGW.out.andThen (row' := some bh) (below_grown hbV (some bh)) (fun j hj => .inr hj))
        have HZD := Aside0.mk (Go.Maps.size_del (k := KK.kl (kf y)) hsays.tidy)
        have HHS := Aside0.mk (hsays.has_ (kf y) HCM.out.wf)
        have HDL := Aside0.mk (hsays.del (kf y) HCM.out.wf (fH_less (restH_sort HG.out.sorted left) y).1 (fH_less (restH_sort HG.out.sorted left) y).2)
        have HES := Aside0.mk (restH_struck hw1 HG.out.sorted.apart left HYH.out HQ.out)
        clear hbV kb hz1 hsays
        go_still_tail 5, (by kernel_rfl)
        change wpList _ _ _ _ _ V.drew
        go_wp2_with (first
          | (at_delete; refine wpList_delete_ranges _ rfl _ _ 66 79 rfl 52 KK.law Try.underlying66 _ bh w.heap.size H.length D _ cnt2 rfl hrgd _ _ rfl hkl ?_; intro w3 cnt3 hrg3 hle hturn; go_frame)
          | go_in)
        go_roundg cnt3
        case measure => have := HCN.out; have := HCM.out.lt; omega
        case rel =>
          rw [Go.Maps.strike_twice] at hrg3
          refine ⟨_, cnt3, _, ?_, ⟨hrg3⟩, ⟨by rw [HES.out]; exact HDL.out⟩, ⟨?_⟩, ⟨?_⟩, ⟨Nat.le_refl _⟩⟩
          · have := HLS.out
            congr 1
            omega
          · have h1 := HZD.out
            have h2 := HZ.out
            have h3 := HLS.out
            rw [HHS.out, fH_own (restH_sort HG.out.sorted left).apart HY.out, if_pos (by rfl)] at h1
            rw [HM2.out] at h2
            omega
          · have ht := hturn.grown
            exact HG2.out.andThen (row' := some bh) ⟨ht.os, ht.tape, ht.output, ht.size, ht.block⟩ (fun j hj => by cases hj; exact .inr rfl)
      · have t1 : (y.f0 == o) = false := beq_eq_false_iff_ne.mpr hq
        have e := restH_stays hw1 HG.out.sorted.apart left HYH.out hq
        have HE := Aside0.mk e
        clear e hst
        go_wp2
        go_roundg cnt2
        case measure => have := HCN.out; have := HCM.out.lt; omega
        case rel =>
          exact ⟨_, cnt2, D, by rw [HE.out, HM2.out], ⟨HCM.out.ranges.alloc _⟩, ⟨by rw [HE.out]; exact HD.out⟩, ⟨by rw [HE.out]; exact HZ.out⟩, ⟨HGW.out.andThen (row' := some bh) (World.grownBy_alloc w2 _ (some bh)) (fun j hj => .inr hj)⟩, ⟨Nat.le_refl _⟩⟩
end Go.Proofs.Ytgdnljhndjlefaa.QNeedFits
