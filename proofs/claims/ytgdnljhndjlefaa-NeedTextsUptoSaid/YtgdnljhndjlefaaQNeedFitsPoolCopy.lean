/- Another pool as it is. No conditions beyond those that each theorem names. -/
import Derived.Test.YtgdnljhndjlefaaQNeedFitsPoolRefTake2
import Derived.Maps.Ext
namespace Go.Proofs.Ytgdnljhndjlefaa.QNeedFits
open Go.RowKit Go.Proofs.Ytgdnljhndjlefaa.PNeedFits Go.Proofs.YtgdnljhndjlefaaW.PrintWords Go.Proofs.YtgdnljhndjlefaaW.PrintLast Go.Proofs.YtgdnljhndjlefaaW.PrintMore Go.Proofs.Ytgdnljhndjlefaa.MMaps
set_option linter.unusedVariables false
set_option linter.unusedSimpArgs false
set_option maxRecDepth 100000
set_option maxHeartbeats 16000000 in
theorem Copy.calls (p bt bh : Nat) (R : List Rs) (H : List Hd) (w : World) (h : PoolAt w p bt bh R H) :
    Calls Try.prog 54 #[.pointer (some ⟨p, 0, none⟩)] w fun e w' => ∃ p' bt' bh', e = .returned (.pointer (some ⟨p', 0, none⟩)) ∧ w.heap.size ≤ p' ∧ w.heap.size ≤ bt' ∧ w.heap.size ≤ bh' ∧ PoolAt w' p' bt' bh' R H ∧ Below w.heap.size w w' := by
  have hNew := New.calls none 0 [] w (Kd.C_nil _ _) (Nat.le_refl _) (fun r hr => by cases hr) (by simp)
  rw [show newR [] = [] from rfl] at hNew
  have HP := Aside0.mk h
  have HG := Aside0.mk h.good
  obtain ⟨T0, hownT, hsayT, hszT⟩ := h.things.own
  obtain ⟨D0, hownH, hsayH, hszH⟩ := h.held.own
  have HST := Aside0.mk hsayT
  have HSH := Aside0.mk hsayH
  have HCT := Aside0.mk (World.ownsMap.canon hownT KS.law)
  have HCH := Aside0.mk (World.ownsMap.canon hownH KK.law)
  have hrl := h.good.rlen
  have hhl := h.good.hlen
  have HOT := Aside0.mk hownT
  have HOH := Aside0.mk hownH
  clear hsayT hsayH hownT hownH h
  go_enter Try.func54, Try.ntmps54
  go_upto_region 4 with (go_at_call 9; refine hNew.mono ?_; rintro e w1 ⟨p2, t2, h2, rfl, hp2, ht2, hh2, hP2, hB1⟩)
  have HP2 := Aside0.mk hP2
  have HB1 := Aside0.mk hB1
  have z0 : w1.cell? ⟨p, 0, none⟩ = some (.map (some bt)) := blk_cell (HP.out.below hB1).cell 0
  have hown1 := HOT.out.kept (below_grown hB1 none) (by simp)
  obtain ⟨E0, hownE, hsayE, hszE⟩ := hP2.things.own
  have hn2 := hP2.ne
  have hpt := hP2.net
  have hph := hP2.neh
  have hltp := hP2.ltp
  have hltt := hP2.things.lt
  have hlth := hP2.held.lt
  have hbt := HP.out.things.lt
  have hbh := HP.out.held.lt
  have hbp := HP.out.ltp
  have HE0 := Aside0.mk (show E0 = .map [] from Go.Maps.ext (World.ownsMap.canon hownE KS.law) (World.ownsMap.canon (World.ownsMap_made w Try.prog 9 RV) KS.law) (fun k => by
    have e : Go.Maps.has (DataW.map ([] : List (Lit × DataW Value))) k = false := rfl
    rw [e]
    obtain ⟨es, rfl⟩ := World.ownsMap.isMap hownE
    cases es with
    | nil => rfl
    | cons a b => simp [Go.Maps.size] at hszE) (fun k z hh => by
    obtain ⟨es, rfl⟩ := World.ownsMap.isMap hownE
    cases es with
    | nil => rfl
    | cons a b => simp [Go.Maps.size] at hszE))
  have HOE := Aside0.mk hownE
  clear hNew hP2 hB1 hownE hsayE
  go_wp2_with (first
    | (at_range; refine wpList_range_own _ rfl _ 65 rfl 9 70 KS.law Try.underlying65 RV bt R.length T0 rfl hown1 ?_; intro w0 hrg0 hg0 hs0)
    | go_in)
  go_frame
  have hrg0b := hrg0
  go_loopg [] R.length (fun gg wr => ∃ (left : Lit → Bool) (cnt n : Nat) (E : DataW Value), n + cnt ≤ R.length ∧ Aside0 (wr.ranges Try.prog 9 RV bt w1.heap.size R.length T0 left cnt) ∧ Aside0 (wr.ownsMap Try.prog 9 RV t2 n E) ∧ Aside0 (Go.Maps.Agree E T0 left) ∧ Aside0 (w1.grownBy wr (some t2)) ∧ Aside0 (cnt ≤ gg))
  case atStart =>
    refine ⟨_, _, 0, E0, by rw [hszT]; omega, ⟨hrg0⟩, ⟨?_⟩, ⟨by rw [HE0.out]; exact Go.Maps.agree_start T0⟩, ⟨hg0.but _⟩, ⟨by rw [hszT]; exact Nat.le_refl _⟩⟩
    have := (own_tight HOE.out).kept hg0 (by simp)
    rwa [hszE] at this
  case round =>
    clear hown1 hrg0 hrg0b hg0
    obtain ⟨left, cnt, n, E, hnc, HR, HO, HA, HGR, HC⟩ := hrel
    have hrg := HR.out
    have hsays := HST.out
    go_wp2_with (first
      | (at_next; refine next_key KS rfl _ rfl bt w1.heap.size R.length T0 (fT R) hsays left cnt rfl hrg ?_ ?_)
      | go_in)
    · intro _ hl0
      rename World => wo
      have HEQ := Aside0.mk (Go.Maps.agree_end HA.out hl0 (World.ownsMap.canon HO.out KS.law) HCT.out)
      have hGR := HGR.out
      have z1 : wo.cell? ⟨p, 1, none⟩ = some (.map (some bh)) := blk_cell ((hGR.block p (Nat.lt_of_lt_of_le hbp HB1.out.size) (by simp; omega)).trans (HP.out.below HB1.out).cell) 1
      have hown2 : wo.ownsMap Try.prog 79 RV bh H.length D0 := (HOH.out.kept (below_grown HB1.out none) (by simp)).kept hGR (by simp; omega)
      have hMT : MapAt KS wo t2 R.length (fT R) := ⟨T0, by have := own_tight HO.out; rw [HEQ.out, hszT] at this; exact this, HST.out, hszT⟩
      have HMT := Aside0.mk hMT
      have hwsz : w1.heap.size ≤ wo.heap.size := hGR.size
      have HPR := Aside0.mk (show PoolAt wo p2 t2 h2 R [] from ⟨(hGR.block p2 hltp (by simpa using hpt)).trans HP2.out.cell, hMT, HP2.out.held.kept hGR (by simpa using hn2.symm), hn2, ⟨hrl, HG.out.rwf, HG.out.rap, List.Pairwise.nil, fun x hx => (by cases hx), by simp⟩⟩)
      obtain ⟨F0, hownF, _, hszF⟩ := HPR.out.held.own
      have HOF := Aside0.mk hownF
      clear hrg hsays HR HA hMT hownF z0
      go_wp2_with (first
        | (at_range; refine wpList_range_own _ rfl _ 66 rfl 79 52 KK.law Try.underlying66 RV bh H.length D0 rfl hown2 ?_; intro w4 hrg4 hg4 hs4)
        | go_in)
      go_frame
      go_loopg [] H.length (fun gg wq => ∃ (left : Lit → Bool) (cnt n : Nat) (E : DataW Value), n + cnt ≤ H.length ∧ Aside0 (wq.ranges Try.prog 79 RV bh wo.heap.size H.length D0 left cnt) ∧ Aside0 (wq.ownsMap Try.prog 79 RV h2 n E) ∧ Aside0 (Go.Maps.Agree E D0 left) ∧ Aside0 (wo.grownBy wq (some h2)) ∧ Aside0 (cnt ≤ gg))
      case atStart =>
        refine ⟨_, _, 0, F0, by rw [hszH]; omega, ⟨hrg4⟩, ⟨?_⟩, ⟨?_⟩, ⟨hg4.but _⟩, ⟨by rw [hszH]; exact Nat.le_refl _⟩⟩
        · have := (own_tight HOF.out).kept hg4 (by simp)
          rw [hszF] at this
          exact this
        · obtain ⟨es, rfl⟩ := World.ownsMap.isMap HOF.out
          cases es with
          | nil => exact Go.Maps.agree_start D0
          | cons a b => simp [Go.Maps.size] at hszF
      case round =>
        clear hown2 hrg4 hg4
        obtain ⟨left, cnt, n, E, hnc, HR, HO2, HA, HGQ, HC⟩ := hrel
        have hrg := HR.out
        have hsays := HSH.out
        have hGQ := HGQ.out
        go_wp2_with (first
          | (at_next; refine next_key KK rfl _ rfl bh wo.heap.size H.length D0 (fH H) hsays left cnt rfl hrg ?_ ?_)
          | go_in)
        · intro _ hl0
          have hEq := Go.Maps.agree_end HA.out hl0 (World.ownsMap.canon HO2.out KK.law) HCH.out
          have hMH : MapAt KK _ h2 H.length (fH H) := ⟨D0, by have := own_tight HO2.out; rw [hEq, hszH] at this; exact this, HSH.out, hszH⟩
          have HFIN := Aside0.mk (HPR.out.held_to hGQ hMH rfl HG.out)
          clear hMH hEq
          go_wp2
          go_ret
          exact ⟨p2, t2, h2, rfl, hp2, ht2, hh2, HFIN.out, (HB1.out.trans (grown_below hGR ht2 HB1.out.size)).trans (grown_below hGQ hh2 (Nat.le_trans HB1.out.size hwsz))⟩
        · intro x v w5 cnt5 hcame hen
          obtain ⟨y, hy, rfl, rfl⟩ := fH_mem hcame.mem
          have ekv : KK.kv (kf y) = .agg #[.int .i64 y.f0, .string y.f1] := rfl
          rw [ekv] at hen ⊢
          have hcm := hcame.mem
          unfold nv at hen ⊢
          have HCM := Aside0.mk hcame
          have hG5 : wo.grownBy w5 (some h2) := hGQ.andThen hcame.grown (fun j hj => by cases hj; exact .inl (Nat.le_refl _))
          have HG5 := Aside0.mk hG5
          have hown5 : w5.ownsMap Try.prog 79 RV h2 n E := HO2.out.kept hcame.grown (by simp; omega)
          have hkl := KK.key hcame.wf
          have hlm : n < maxLen := by have := hcame.lt; unfold maxLen; omega
          have HAT := Aside0.mk (fun z => HSH.out.at_ (kf y) _ hcame.wf hcame.mem z)
          have HO5 := Aside0.mk hown5
          clear hcame hsays hrg hcm hown5 hG5
          go_upto_region 11 with (fail)
          obtain ⟨V, hV⟩ : ∃ V, V = (w5.alloc (.cells #[.int .i64 y.f0, .string y.f1] 79 (0, 0))).alloc (.cells #[.string y.f1, .int .i64 y.f2, .int .i64 y.f3] 52 (0, 0)) := ⟨_, rfl⟩
          have ka : V.heap[w5.heap.size]? = some (.cells #[.int .i64 y.f0, .string y.f1] 79 (0, 0)) := by rw [hV]; exact blk_alloc (blk_new w5 _) _
          have kb : V.heap[w5.heap.size + 1]? = some (.cells #[.string y.f1, .int .i64 y.f2, .int .i64 y.f3] 52 (0, 0)) := by
            rw [hV]
            have := blk_new (w5.alloc (.cells #[.int .i64 y.f0, .string y.f1] 79 (0, 0))) (.cells #[.string y.f1, .int .i64 y.f2, .int .i64 y.f3] 52 (0, 0))
            rwa [show (w5.alloc (.cells #[.int .i64 y.f0, .string y.f1] 79 (0, 0))).heap.size = w5.heap.size + 1 from by simp] at this
          have hbV : Below w5.heap.size w5 V := by rw [hV]; exact below_alloc (below_alloc (Below.refl _ _) _) _
          rw [← hV]
          clear hV
          have k0 : V.cell? ⟨w5.heap.size, 0, none⟩ = some (.int .i64 y.f0) := blk_cell ka 0
          have k1 : V.cell? ⟨w5.heap.size, 1, none⟩ = some (.string y.f1) := blk_cell ka 1
          have k2 : V.cell? ⟨w5.heap.size + 1, 0, none⟩ = some (.string y.f1) := blk_cell kb 0
          have k3 : V.cell? ⟨w5.heap.size + 1, 1, none⟩ = some (.int .i64 y.f2) := blk_cell kb 1
          have k4 : V.cell? ⟨w5.heap.size + 1, 2, none⟩ = some (.int .i64 y.f3) := blk_cell kb 2
          have k5 : V.cell? ⟨p2, 1, none⟩ = some (.map (some h2)) := blk_cell (blk_below ((HG5.out.block p2 (Nat.lt_of_lt_of_le hltp hwsz) (by simpa using hph)).trans HPR.out.cell) hbV) 1
          have hownV : V.drew.ownsMap Try.prog 79 RV h2 n E := (HO5.out.kept (below_grown hbV none) (by simp)).kept (below_grown (below_drew1 (Below.refl _ V)) none) (by simp)
          have HRV := Aside0.mk (HCM.out.ranges.kept (w' := V.drew) (below_grown (hbV.trans ((below_drew1 (Below.refl _ V)).mono hbV.size)) none) (by simp) (by simp))
          have HGV := Aside0.mk (HG5.out.andThen (row' := none) (below_grown (hbV.trans ((below_drew1 (Below.refl _ V)).mono hbV.size)) none) (fun j hj => by cases hj))
          clear ka kb hbV
          go_still_tail 6, (by kernel_rfl)
          change wpList _ _ _ _ _ V.drew
          go_wp2_with (at_mapUpdate; refine wpList_mapUpdate_own _ rfl _ _ _ 66 rfl 79 52 KK.law Try.underlying66 RV h2 n E rfl hownV hlm _ _ _ rfl rfl hkl (.held (nv y)) [] rfl ?_; intro w9 hown9 hgr9; have HO9 := Aside0.mk hown9; have HG9 := Aside0.mk (show V.drew.grownBy w9 (some h2) from hgr9); clear hown9 hgr9 hownV; go_frame)
          go_roundg cnt5
          case measure => have := HC.out; have := HCM.out.lt; omega
          case rel =>
            exact ⟨_, cnt5, n + 1, _, by have := HCM.out.lt; omega, ⟨HRV.out.kept HG9.out (by simp; omega) (by simp; omega)⟩, HO9, ⟨Go.Maps.agree_step HA.out (World.ownsMap.isMap HO2.out) (KK.is HCM.out.wf) HAT.out⟩, ⟨HGV.out.andThen (row' := some h2) HG9.out (fun j hj => .inr hj)⟩, ⟨Nat.le_refl _⟩⟩
    · intro x v w3 cnt3 hcame hen
      have ekv : KS.kv x = .string x := rfl
      rw [ekv] at hen ⊢
      have HCM := Aside0.mk hcame
      have hG3 : w1.grownBy w3 (some t2) := HGR.out.andThen hcame.grown (fun j hj => by cases hj; exact .inl (Nat.le_refl _))
      have HG3 := Aside0.mk hG3
      have y0 : w3.cell? ⟨p2, 0, none⟩ = some (.map (some t2)) := blk_cell ((hG3.block p2 hltp (by simpa using hpt)).trans HP2.out.cell) 0
      have hown3 : w3.ownsMap Try.prog 9 RV t2 n E := HO.out.kept hcame.grown (by simp; omega)
      have hkl := KS.key hcame.wf
      have hlm : n < maxLen := by have := hcame.lt; unfold maxLen; omega
      have HAT := Aside0.mk (fun z => HST.out.at_ x v hcame.wf hcame.mem z)
      clear hcame hsays hrg hG3
      go_wp2_with (first
        | (at_mapUpdate; refine wpList_mapUpdate_own _ rfl _ _ _ 65 rfl 9 70 KS.law Try.underlying65 RV t2 n E rfl hown3 hlm _ _ _ rfl rfl hkl (.held v) [] rfl ?_; intro w9 hown9 hgr9; have HO9 := Aside0.mk hown9; have HG9 := Aside0.mk hgr9; clear hown9 hgr9; go_frame)
        | go_in)
      go_roundg cnt3
      case measure => have := HC.out; have := HCM.out.lt; omega
      case rel =>
        refine ⟨_, cnt3, n + 1, _, by have := HCM.out.lt; omega, ⟨HCM.out.ranges.kept HG9.out (by simp; omega) (by simp; omega)⟩, HO9, ⟨Go.Maps.agree_step HA.out (World.ownsMap.isMap HO.out) (KS.is HCM.out.wf) HAT.out⟩, ⟨HG3.out.andThen (row' := some t2) HG9.out (fun j hj => .inr hj)⟩, ⟨Nat.le_refl _⟩⟩
end Go.Proofs.Ytgdnljhndjlefaa.QNeedFits
