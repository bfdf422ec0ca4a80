/- Whether a need can not be met now. No conditions beyond those that each theorem names. -/
import Derived.Test.YtgdnljhndjlefaaQNeedFitsPoolNew
namespace Go.Proofs.Ytgdnljhndjlefaa.QNeedFits
open Go.RowKit Go.Proofs.Ytgdnljhndjlefaa.PNeedFits Go.Proofs.YtgdnljhndjlefaaW.PrintWords Go.Proofs.YtgdnljhndjlefaaW.PrintLast Go.Proofs.YtgdnljhndjlefaaW.PrintMore Go.Proofs.Ytgdnljhndjlefaa.MMaps
set_option linter.unusedVariables false
set_option linter.unusedSimpArgs false
set_option maxRecDepth 100000
theorem kf_inj {H : List Hd} (ha : H.Pairwise fun a b => kf a ≠ kf b) {x h : Hd} (hx : x ∈ H) (hh : h ∈ H) (e : kf h = kf x) : h = x := by
  have h1 := find_own ha hx
  have h2 := find_own ha hh
  rw [e, h1] at h2
  exact (Option.some.inj h2).symm
/-- Who is behind: who was behind, or who came now. -/
theorem gone {H : List Hd} (ha : H.Pairwise fun a b => kf a ≠ kf b) (hw : ∀ h ∈ H, wfK (kf h)) {left : Lit → Bool} {x h : Hd} (hx : x ∈ H) (hh : h ∈ H) (e : (left (KK.kl (kf h)) && !(KK.kl (kf h)).sameKey (KK.kl (kf x))) = false) : left (KK.kl (kf h)) = false ∨ h = x := by
  by_cases q : kf h = kf x
  · exact .inr (kf_inj ha hx hh q)
  · rw [KK.other (hw h hh) (hw x hx) q] at e
    left
    simpa using e
def goodN (n : Nd) : Prop := n.f0.size ≤ maxLen ∧ (n.f2 = 0 ∨ n.f2 = 1 ∨ n.f2 = 2)
set_option maxHeartbeats 8000000 in
theorem busy.calls (p bt bh : Nat) (R : List Rs) (H : List Hd) (n : Nd) (hn : goodN n) (w : World) (h : PoolAt w p bt bh R H) : Calls Try.prog 47 #[.pointer (some ⟨p, 0, none⟩), .agg #[.string n.f0, .int .i64 n.f1, .int .i64 n.f2]] w fun e w' => e = .returned (.bool (busyOf R H n)) ∧ Below w.heap.size w w' := by
  obtain ⟨r, hr⟩ : ∃ r, busyOf R H n = r := ⟨_, rfl⟩
  rw [hr]
  have HP := Aside0.mk h
  clear h
  go_enter Try.func47, Try.ntmps47
  go_upto_region 1 with (fail)
  obtain ⟨W, hW⟩ : ∃ W, W = w.alloc (.cells #[.string n.f0, .int .i64 n.f1, .int .i64 n.f2] 52 (0, 0)) := ⟨_, rfl⟩
  have hbW : Below w.heap.size w W := by rw [hW]; exact below_alloc (Below.refl _ _) _
  have kb : W.heap[w.heap.size]? = some (.cells #[.string n.f0, .int .i64 n.f1, .int .i64 n.f2] 52 (0, 0)) := by rw [hW]; exact blk_new _ _
  rw [← hW]
  clear hW
  have hPW := HP.out.below hbW
  have HBW := Aside0.mk hbW
  have HKB := Aside0.mk kb
  have y0 : W.cell? ⟨w.heap.size, 0, none⟩ = some (.string n.f0) := blk_cell kb 0
  have y1 : W.cell? ⟨w.heap.size, 1, none⟩ = some (.int .i64 n.f1) := blk_cell kb 1
  have y2 : W.cell? ⟨w.heap.size, 2, none⟩ = some (.int .i64 n.f2) := blk_cell kb 2
  by_cases m0 : n.f2 = 0
  · have hF := Free.calls p bt bh R H n.f0 hn.1 W hPW
    unfold busyOf at hr
    rw [if_pos m0] at hr
    rw [m0] at y2
    generalize (freeOf R H n.f0).1 = u at *
    generalize (freeOf R H n.f0).2 = v at *
    clear kb hbW hPW m0
    go_wp2_with (go_at_call 22; refine hF.mono ?_; rintro e1 w1 ⟨rfl, B1⟩; have z1 : w1.cell? ⟨w.heap.size, 1, none⟩ = some (.int .i64 n.f1) := blk_cell (blk_below HKB.out B1) 1)
    go_ret
    exact ⟨by rw [← hr]; rfl, below_go HBW.out HBW.out.size B1⟩
  · have n0 : (n.f2 == 0) = false := beq_eq_false_iff_ne.mpr m0
    unfold busyOf at hr
    rw [if_neg m0] at hr
    have HR := Aside0.mk hr
    have c1 : W.cell? ⟨p, 1, none⟩ = some (.map (some bh)) := blk_cell hPW.cell 1
    obtain ⟨D0, hown, hsays, hsz⟩ := hPW.held.own
    have HG := Aside0.mk hPW.good
    have HSY := Aside0.mk hsays
    clear hsays hPW hbW kb hr
    go_wp2_with (first
      | (at_range; refine wpList_range_own _ rfl _ 66 rfl 79 52 KK.law Try.underlying66 RV bh H.length D0 rfl hown ?_; intro w0 hrg0 hg0 hs0)
      | go_in)
    go_frame
    go_loopg [] H.length (fun gg wr => ∃ (left : Lit → Bool) (cnt : Nat), Aside0 (wr.ranges Try.prog 79 RV bh W.heap.size H.length D0 left cnt) ∧ Aside0 (Below W.heap.size W wr) ∧ Aside0 (cnt ≤ gg) ∧ Aside0 (∀ h ∈ H, left (KK.kl (kf h)) = false → clash n h = false))
    case atStart =>
      refine ⟨_, _, ⟨hrg0⟩, ⟨below_of_grown hg0⟩, ⟨?_⟩, ⟨fun h hh e => ?_⟩⟩
      · rw [hsz]; exact Nat.le_refl _
      · rw [HSY.out.has_ _ (HG.out.hwf h hh).1, fH_own HG.out.sorted.apart hh] at e
        cases e
    case round =>
      obtain ⟨left, cnt, HRG, HB, HC, HN⟩ := hrel
      have hrg := HRG.out
      clear hown
      have hsays := HSY.out
      go_wp2_with (first
        | (at_next; refine next_key KK rfl _ rfl bh W.heap.size H.length D0 (fH H) hsays left cnt rfl hrg ?_ ?_)
        | go_in)
      · intro _ hl0
        go_wp2
        go_ret
        refine ⟨?_, below_go HBW.out HBW.out.size HB.out⟩
        have e : H.any (clash n) = false := by
          rw [List.any_eq_false]
          exact fun x hx => by rw [HN.out x hx (hl0 _)]; simp
        rw [← HR.out, e]
        rfl
      · intro x v w2 cnt2 hcame hen
        obtain ⟨y, hy, rfl, rfl⟩ := fH_mem hcame.mem
        have ekv : KK.kv (kf y) = .agg #[.int .i64 y.f0, .string y.f1] := rfl
        rw [ekv] at hen ⊢
        have HCM := Aside0.mk hcame
        have HY := Aside0.mk hy
        have hmd := (HG.out.hwf y hy).2.2.2
        clear hcame hsays hrg HRG ekv
        unfold nv at hen
        unfold nv
        have HB2 := Aside0.mk (HB.out.grown HCM.out.grown HB.out.size (fun k e => by cases e; exact Nat.le_refl _))
        have kb2 := blk_below HKB.out HB2.out
        have z0 : w2.cell? ⟨w.heap.size, 0, none⟩ = some (.string n.f0) := blk_cell kb2 0
        have z2 : w2.cell? ⟨w.heap.size, 2, none⟩ = some (.int .i64 n.f2) := blk_cell kb2 2
        have hltw := blk_lt kb2
        clear kb2 y0 y1 y2
        have hcl : clash n y = (eqS y.f1 n.f0 && (decide (y.f3 = 2) || decide (n.f2 = 2))) := rfl
        have HN2 := Aside0.mk (fun (hc : clash n y = false) (h : Hd) (hh : h ∈ H) (e : (left (KK.kl (kf h)) && !(KK.kl (kf h)).sameKey (KK.kl (kf y))) = false) => (show clash n h = false from (gone HG.out.sorted.apart (fun h hh => (HG.out.hwf h hh).1) HY.out hh e).elim (fun q => HN.out h hh q) (fun q => q ▸ hc)))
        cases hq : eqS y.f1 n.f0 with
        | false =>
          rw [hq, Bool.false_and] at hcl
          have HCL := Aside0.mk hcl
          have t1 : (y.f1.toList == n.f0.toList) = false := hq
          clear hcl hmd
          go_wp2
          go_roundg cnt2
          case measure => have := HC.out; have := HCM.out.lt; omega
          case rel =>
            exact ⟨_, cnt2, ⟨HCM.out.ranges.alloc _ |>.alloc _⟩, ⟨below_alloc (below_alloc HB2.out _) _⟩, ⟨Nat.le_refl _⟩, ⟨HN2.out HCL.out⟩⟩
        | true =>
          rw [hq, Bool.true_and] at hcl
          have t1 : (y.f1.toList == n.f0.toList) = true := hq
          have hn12 : n.f2 = 1 ∨ n.f2 = 2 := hn.2.resolve_left m0
          clear n0 m0
          rcases hmd with hm | hm | hm <;> rcases hn12 with h2 | h2 <;> rw [hm, h2] at hcl <;> rw [hm] at hen ⊢ <;> rw [h2] at z2
          all_goals
            have HCL := Aside0.mk hcl
            clear hcl hm h2
            go_wp2
            first
            | (go_roundg cnt2
               case measure => have := HC.out; have := HCM.out.lt; omega
               case rel =>
                 exact ⟨_, cnt2, ⟨HCM.out.ranges.alloc _ |>.alloc _⟩, ⟨below_alloc (below_alloc HB2.out _) _⟩, ⟨Nat.le_refl _⟩, ⟨HN2.out HCL.out⟩⟩)
            | (go_ret
               refine ⟨?_, below_go HBW.out HBW.out.size (below_alloc (below_alloc HB2.out _) _)⟩
               rw [← HR.out, List.any_eq_true.mpr ⟨y, HY.out, HCL.out⟩]; rfl)
end Go.Proofs.Ytgdnljhndjlefaa.QNeedFits
