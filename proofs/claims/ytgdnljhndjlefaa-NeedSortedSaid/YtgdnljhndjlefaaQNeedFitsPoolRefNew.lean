/- The reference's pool: a new one. No conditions beyond those that each theorem names. -/
import Derived.Test.YtgdnljhndjlefaaQNeedFitsPoolRefTake2
import Derived.Deep.RegionLaw
namespace Go.Proofs.Ytgdnljhndjlefaa.QNeedFits
open Go.RowKit Go.Proofs.Ytgdnljhndjlefaa.PNeedFits Go.Proofs.YtgdnljhndjlefaaW.PrintWords Go.Proofs.YtgdnljhndjlefaaW.PrintLast Go.Proofs.YtgdnljhndjlefaaW.PrintMore Go.Proofs.Ytgdnljhndjlefaa.MMaps
set_option linter.unusedVariables false
set_option linter.unusedSimpArgs false
set_option maxRecDepth 100000
theorem infoS : (Try.prog.info? 47).map (fun i => (i.zero, i.size, i.bytes)) = some (some (.agg #[.string ⟨#[]⟩, .int .i64 0, .bool false]), 3, 32) := by kernel_rfl
def RNew.T11 : Bool × List (List Nat × List Nat) := (true, [([], []), ([], []), ([1], [1]), ([2], [2]), ([3], [3]), ([], []), ([5], [5]), ([4, 6], [4, 6]), ([0, 0, 1, 2, 3, 4, 5, 6, 7], [0]), ([8, 0, 1, 2, 3, 4, 5, 6, 7], [8]), ([9, 7, 7, 0, 1, 2, 3, 4, 5, 6, 7], [7, 9])])
def RNew.B11 : List Nat := [0, 0, 2, 6, 14, 0, 32, 126, 255, 511, 1023]
theorem RNew.tab11 : rtab .any (opsOf Try.f11 11) = RNew.T11 := by kernel_rfl
theorem RNew.bits11 : waitsOk RNew.T11.2 RNew.B11 = true := by kernel_rfl
theorem poolR_take (l : List Rs) (i : Nat) (h : i < l.length) : poolR (l.take (i + 1)) = addRs (poolR (l.take i)) (toR l[i]) := by
  unfold poolR newR
  rw [List.take_succ_eq_append_getElem h, List.map_append, List.foldl_append]; rfl
/-- The resource as it is kept: four ways. -/
theorem asR_lock {x : Rs} (h : x.f2 = true) : asR (toR x) = ⟨x.f0, 0, true⟩ := by unfold asR toR; dsimp only; rw [h]; rfl
theorem asR_unit {x : Rs} (h : x.f2 = false) : asR (toR x) = ⟨x.f0, clampI x.f1, false⟩ := by unfold asR toR; dsimp only; rw [h]; rfl
/-- Such a pool under way. -/
structure Under (w : World) (r : Nat) (R : List Rs) : Prop where
  own : ∃ A c, w.heap[r]? = some (.cells #[.slice A R.length c, .slice none 0 0] 76 (0, 0)) ∧ k47.R 47 w 0 (fun k => r < k) (.slice A R.length c) R
theorem Under.ref {w : World} {r : Nat} {R : List Rs} (h : Under w r R) : RefAt w r (fun k => r < k) R [] := by
  obtain ⟨A, c, h1, h2⟩ := h.own
  exact ⟨A, c, none, 0, h1, h2, Kd.R_nil _ _ _ _ _⟩
theorem Under.below {w w' : World} {r : Nat} {R : List Rs} (h : Under w r R) (hb : Below w.heap.size w w') : Under w' r R := by
  obtain ⟨A, c, h1, h2⟩ := h.own
  exact ⟨A, c, blk_below h1 hb, Kd.R_below h2 hb⟩
theorem findNone_calls (r : Nat) (ok : Nat → Prop) (R : List Rs) (H : List Hd) (s : ByteArray) (w : World) (h : RefAt w r ok R H) (hl : R.length ≤ 100000) (hf : findR R s = none) : Calls Try.prog 29 #[.pointer (some ⟨r, 0, none⟩), .string s] w fun e w' => e = .returned (.int .i64 (-1)) ∧ Drawn0 w w' := by
  refine (find.calls r ok R H s w h hl).mono ?_
  rintro e w' ⟨⟨k, rfl, hst⟩, d⟩
  rcases hst with ⟨rfl, _⟩ | ⟨i, _, _, hs⟩
  · exact ⟨rfl, d⟩
  · rw [hf] at hs; cases hs
theorem findSome_calls (r : Nat) (ok : Nat → Prop) (R : List Rs) (H : List Hd) (s : ByteArray) (w : World) (h : RefAt w r ok R H) (hl : R.length ≤ 100000) {x : Rs} (hf : findR R s = some x) : Calls Try.prog 29 #[.pointer (some ⟨r, 0, none⟩), .string s] w fun e w' => (∃ i : Nat, e = .returned (.int .i64 i) ∧ ∃ h : i < R.length, R[i] = x) ∧ Drawn0 w w' := by
  refine (find.calls r ok R H s w h hl).mono ?_
  rintro e w' ⟨⟨k, rfl, hst⟩, d⟩
  rcases hst with ⟨_, hs⟩ | ⟨i, hi, rfl, hs⟩
  · rw [hf] at hs; cases hs
  · rw [hf] at hs; cases hs; exact ⟨⟨i, rfl, hi, rfl⟩, d⟩
set_option maxHeartbeats 16000000 in
theorem RNew.calls (A0 : Option Addr) (c0 : Nat) (l : List Rs) (w : World) (hC : Kd.C k47 w A0 l.length l) (hc : l.length ≤ c0) (hl : l.length ≤ 100000) : Calls Try.prog 11 #[.slice A0 l.length c0] w fun e w' => e = .returned (.pointer (some ⟨w.heap.size, 0, none⟩)) ∧ RefAt w' w.heap.size (fun k => w.heap.size < k) (poolR l) [] ∧ Below w.heap.size w w' := by
  have HC := Aside0.mk hC
  clear hC
  go_enter Try.func11, Try.ntmps11
  go_wp2
  obtain ⟨W, hW⟩ : ∃ W, W = w.alloc (.cells #[.slice none 0 0, .slice none 0 0] 76 (0, 0)) := ⟨_, rfl⟩
  have HU := Aside0.mk (show Under W w.heap.size [] from ⟨none, 0, by rw [hW]; exact blk_new _ _, Kd.R_nil _ _ _ _ _⟩)
  have HB := Aside0.mk (show Below w.heap.size w W by rw [hW]; exact below_alloc (Below.refl _ _) _)
  rw [← hW]
  clear hW
  go_loopg [4] l.length (fun gg v4 wr => ∃ i : Nat, i ≤ l.length ∧ l.length - i ≤ gg ∧ v4 = .int .i64 i ∧ Aside0 (Under wr w.heap.size (poolR (l.take i))) ∧ Aside0 (Below w.heap.size w wr))
  case atStart => exact ⟨0, Nat.zero_le _, by omega, rfl, HU, HB⟩
  case round =>
    clear HU HB
    obtain ⟨i, hi, hg, rfl, HU, HB⟩ := hrel
    by_cases hlt : i < l.length
    · have b2 : decide ((i : Int) < (l.length : Int)) = true := decide_eq_true (by omega)
      have b3 : (i : Int) < (l.length : Int) := by omega
      have hz : (0 : Int) ≤ (i : Int) := by omega
      obtain ⟨ad, e, x0, x1, x2⟩ := at_T47 HC.out (i : Int) hz b3
      cases e
      have hbk := World.block_lt_of_cell? w _ x0
      rw [rdrs_at l i hlt, Int.toNat_natCast] at x0 x1 x2
      rw [Int.toNat_natCast] at hbk
      have htt := poolR_take l i hlt
      have hrl : (poolR (l.take i)).length ≤ i := by have := poolR_len (l.take i); rw [List.length_take] at this; omega
      obtain ⟨x, hx⟩ : ∃ x, l[i] = x := ⟨_, rfl⟩
      rw [hx] at x0 x1 x2 htt
      have HTT := Aside0.mk htt
      replace x0 := (HB.out.cell (p := ad.add (i * 3)) hbk).trans x0
      replace x1 := (HB.out.cell (p := ⟨(ad.add (i * 3)).block, (ad.add (i * 3)).off + 1, none⟩) hbk).trans x1
      replace x2 := (HB.out.cell (p := ⟨(ad.add (i * 3)).block, (ad.add (i * 3)).off + 2, none⟩) hbk).trans x2
      clear hx htt
      generalize poolR (l.take i) = R at *
      have cases4 : ∃ u : Int, asR (toR x) = ⟨x.f0, u, x.f2⟩ ∧ ((x.f2 = true ∧ u = 0) ∨ (x.f2 = false ∧ x.f1 < 0 ∧ u = 0) ∨ (x.f2 = false ∧ ¬ x.f1 < 0 ∧ 1000 < x.f1 ∧ u = 1000) ∨ (x.f2 = false ∧ ¬ x.f1 < 0 ∧ ¬ 1000 < x.f1 ∧ u = x.f1)) := by
        cases hb : x.f2 with
        | true => exact ⟨0, asR_lock hb, .inl ⟨rfl, rfl⟩⟩
        | false =>
          refine ⟨clampI x.f1, asR_unit hb, .inr ?_⟩
          unfold clampI
          by_cases n0 : x.f1 < 0
          · left; rw [if_pos n0]; exact ⟨rfl, n0, rfl⟩
          · right
            rw [if_neg n0]
            by_cases n1 : 1000 < x.f1
            · left; rw [if_pos n1]; exact ⟨rfl, n0, n1, rfl⟩
            · right; rw [if_neg n1]; exact ⟨rfl, n0, n1, rfl⟩
      obtain ⟨u, hu, hcs⟩ := cases4
      have HAS := Aside0.mk hu
      clear hu
      rcases hcs with ⟨f2, rfl⟩ | ⟨f2, n0, rfl⟩ | ⟨f2, n0, n1, rfl⟩ | ⟨f2, n0, n1, rfl⟩
      · rw [f2] at x2
        have eA : asR (toR x) = ⟨x.f0, 0, true⟩ := by rw [HAS.out, f2]
        have HEA := Aside0.mk eA
        clear eA
        cases hf : findR R x.f0 with
        | some z =>
          have hFs := findSome_calls w.heap.size _ R [] x.f0 (wr.alloc (.cells #[.string x.f0, .int .i64 0, .bool true] 47 (0, 0))) (HU.out.below (below_alloc (Below.refl _ _) _)).ref (by omega) hf
          have HE := Aside0.mk (show addRs R (toR x) = R by unfold addRs; rw [show (toR x).f0 = x.f0 from rfl, hf]; rfl)
          clear hf
          go_wp2_with (go_at_call 29; refine hFs.mono ?_; rintro e w1 ⟨⟨kf, rfl, hkf, _⟩, d1⟩; have hkn : decide ((kf : Int) < 0) = false := decide_eq_false (by omega); have hkm : ¬ ((kf : Int) < 0) := by omega)
          have hb1 : Below wr.heap.size wr w1 := (below_alloc (Below.refl _ _) _).trans (d1.below.mono (by simp))
          go_roundg (l.length - (i + 1))
          case measure => omega
          case rel => exact ⟨i + 1, by omega, Nat.le_refl _, by go_num, ⟨by rw [HTT.out, HE.out]; exact HU.out.below hb1⟩, ⟨below_go HB.out HB.out.size hb1⟩⟩
        | none =>
          have hFn := findNone_calls w.heap.size _ R [] x.f0 (wr.alloc (.cells #[.string x.f0, .int .i64 0, .bool true] 47 (0, 0))) (HU.out.below (below_alloc (Below.refl _ _) _)).ref (by omega) hf
          have HE := Aside0.mk (show addRs R (toR x) = R ++ [⟨x.f0, 0, true⟩] by unfold addRs; rw [show (toR x).f0 = x.f0 from rfl, hf, HEA.out]; rfl)
          clear hf
          go_upto_region 11 with (go_at_call 29; refine hFn.mono ?_; rintro e w1 ⟨rfl, d1⟩)
          have hb1 : Below wr.heap.size wr w1 := (below_alloc (Below.refl _ _) _).trans (d1.below.mono (by simp))
          have kb1 : w1.heap[wr.heap.size]? = some (.cells #[.string x.f0, .int .i64 0, .bool true] 47 (0, 0)) := blk_below (blk_new _ _) d1.below
          obtain ⟨U, hU⟩ : ∃ U, U = w1.drew := ⟨_, rfl⟩
          have hbU : Below w1.heap.size w1 U := by rw [hU]; exact below_drew1 (Below.refl _ _)
          have kbU := blk_below kb1 hbU
          have HB1 := Aside0.mk (below_go HB.out HB.out.size (below_go hb1 hb1.size hbU))
          obtain ⟨AR, cR, kr0, hRR0⟩ := HU.out.own
          have kr := blk_below kr0 (below_go hb1 hb1.size hbU)
          have hRR := Kd.R_below hRR0 (below_go hb1 hb1.size hbU)
          have HRR := Aside0.mk hRR
          have HKR := Aside0.mk kr
          have hrU := blk_lt kr
          have hal : ∀ o, Below U.heap.size U (U.alloc o) := fun o => below_alloc (Below.refl _ _) _
          have s0 : U.cell? ⟨w.heap.size, 0, none⟩ = some (.slice AR R.length cR) := blk_cell kr 0
          have s1 : ∀ o, (U.alloc o).cell? ⟨w.heap.size, 0, none⟩ = some (.slice AR R.length cR) := fun o => blk_cell (blk_below kr (hal o)) 0
          have y0 : U.cell? ⟨wr.heap.size, 0, none⟩ = some (.string x.f0) := blk_cell kbU 0
          have y1 : U.cell? ⟨wr.heap.size, 1, none⟩ = some (.int .i64 0) := blk_cell kbU 1
          have y2 : U.cell? ⟨wr.heap.size, 2, none⟩ = some (.bool true) := blk_cell kbU 2
          rw [hU] at s0 s1 y0 y1 y2
          have HKU := Aside0.mk kbU
          have HNE := Aside0.mk (show ∀ k, (Value.slice AR R.length cR).ownBlock = some k → k ≠ wr.heap.size from fun k e q => by have := ((Kd.R_bound hRR0).1 k e).2.2.1; omega)
          clear hRR kr kb1 kbU hFn kr0 hRR0
          subst hU
          have hS0 : (w1.drew.cell? ⟨w.heap.size, 0, none⟩ = some (.slice AR R.length cR) ∧ w1.drew.cell? ⟨wr.heap.size, 0, none⟩ = some (.string x.f0) ∧ w1.drew.cell? ⟨wr.heap.size, 1, none⟩ = some (.int .i64 0) ∧ w1.drew.cell? ⟨wr.heap.size, 2, none⟩ = some (.bool true)) := ⟨s0, y0, y1, y2⟩
          clear s0 s1 y0 y1 y2 x0 x1 x2
          refine start_ (n := 11) (S := fun W' => W'.cell? ⟨w.heap.size, 0, none⟩ = some (.slice AR R.length cR) ∧ W'.cell? ⟨wr.heap.size, 0, none⟩ = some (.string x.f0) ∧ W'.cell? ⟨wr.heap.size, 1, none⟩ = some (.int .i64 0) ∧ W'.cell? ⟨wr.heap.size, 2, none⟩ = some (.bool true)) (ds := [10]) #[false, false, false, false, false, false, false, false, false, false, false] (by kernel_rfl) rfl rfl hS0 (fun hHeld => ?_)
          refine with_tabW RNew.tab11 RNew.bits11 (fun HT_ HW_ => ?_)
          generalize w1.drew = U at *
          refine pure_ (i := 0) (N := some 35) (v := ?_) (a' := ?_) #[true, false, false, false, false, false, false, false, false, false, false] rfl rfl (any_of HT_.out (by kernel_rfl)) (fun _ _ _ h => h) (Or.inl ⟨by rfl, ?_⟩) ?_ ?_
          rotate_left
          · intro w'
            go_simp
            with_reducible rfl
          rotate_left
          · simp only [Act.put, List.setIfInBounds_toArray, List.set_cons_zero, List.set_cons_succ, i64_w, i32_w]
            rfl
          refine pure_ (i := 1) (N := some 36) (v := ?_) (a' := ?_) #[true, true, false, false, false, false, false, false, false, false, false] rfl rfl (any_of HT_.out (by kernel_rfl)) (fun _ _ _ h => h) (Or.inl ⟨by rfl, ?_⟩) ?_ ?_
          rotate_left
          · intro w'
            go_simp
            with_reducible rfl
          rotate_left
          · simp only [Act.put, List.setIfInBounds_toArray, List.set_cons_zero, List.set_cons_succ, i64_w, i32_w]
            rfl
          refine pure_ (i := 2) (N := some 37) (v := ?_) (a' := ?_) #[true, true, true, false, false, false, false, false, false, false, false] rfl rfl (any_of HT_.out (by kernel_rfl)) (fun _ _ _ h => h) (Or.inl ⟨by rfl, ?_⟩) ?_ ?_
          rotate_left
          · intro w'
            go_simp
            with_reducible rfl
          rotate_left
          · simp only [Act.put, List.setIfInBounds_toArray, List.set_cons_zero, List.set_cons_succ, i64_w, i32_w]
            rfl
          refine pure_ (i := 3) (N := some 38) (v := ?_) (a' := ?_) #[true, true, true, true, false, false, false, false, false, false, false] rfl rfl (any_of HT_.out (by kernel_rfl)) (fun _ _ _ h => h) (Or.inl ⟨by rfl, ?_⟩) ?_ ?_
          rotate_left
          · intro w'
            go_simp
            with_reducible rfl
          rotate_left
          · simp only [Act.put, List.setIfInBounds_toArray, List.set_cons_zero, List.set_cons_succ, i64_w, i32_w]
            rfl
          refine take_ (i := 4) (N := some 39) (v := ?_) (a' := ?_) #[true, true, true, true, true, false, false, false, false, false, false] rfl rfl (take_ofW HT_.out HW_.out (by kernel_rfl)) (fun _ _ _ h => h) (Or.inl ⟨by rfl, ?_⟩) hHeld ?_ ?_
          rotate_left
          · rintro w' ⟨s0, s1, s2, s3⟩
            go_simp
            with_reducible rfl
          rotate_left
          · simp only [Act.put, List.setIfInBounds_toArray, List.set_cons_zero, List.set_cons_succ, i64_w, i32_w]
            rfl
          refine take_ (i := 5) (N := some 40) (v := ?_) (a' := ?_) #[true, true, true, true, true, true, false, false, false, false, false] rfl rfl (take_ofW HT_.out HW_.out (by kernel_rfl)) (fun _ _ _ h => h) (Or.inl ⟨by rfl, ?_⟩) hHeld ?_ ?_
          rotate_left
          · rintro w' ⟨s0, s1, s2, s3⟩
            go_simp
            with_reducible rfl
          rotate_left
          · simp only [Act.put, List.setIfInBounds_toArray, List.set_cons_zero, List.set_cons_succ, i64_w, i32_w]
            rfl
          refine one_ (i := 6) (N := some 41) #[true, true, true, true, true, true, true, false, false, false, false] rfl rfl (one_of HT_.out (by kernel_rfl)) (by decide) (fun K hK => ?_)
          refine value_ (w1 := ?_) (v := ?_) (by rfl) rfl ?_ ?_
          rotate_left 2
          · go_simp
            constructor
            · rfl
            · rfl
          refine hK.out _ _ (by exact ⟨(hal _ |>.cell (p := ⟨w.heap.size, 0, none⟩) (World.block_lt_of_cell? _ _ hHeld.1)).trans hHeld.1, (hal _ |>.cell (p := ⟨wr.heap.size, 0, none⟩) (World.block_lt_of_cell? _ _ hHeld.2.1)).trans hHeld.2.1, (hal _ |>.cell (p := ⟨wr.heap.size, 1, none⟩) (World.block_lt_of_cell? _ _ hHeld.2.2.1)).trans hHeld.2.2.1, (hal _ |>.cell (p := ⟨wr.heap.size, 2, none⟩) (World.block_lt_of_cell? _ _ hHeld.2.2.2)).trans hHeld.2.2.2⟩) (fun hHeld2 => ?_)
          clear hK K
          refine norm_ (a' := ?_) ?_ ?_
          rotate_left
          · show Act.put _ (some 41) _ = _
            simp only [Act.put, List.setIfInBounds_toArray, List.set_cons_zero, List.set_cons_succ, i64_w, i32_w]
            rfl
          refine one_ (i := 7) (N := some 42) #[true, true, true, true, true, true, true, true, false, false, false] rfl rfl (one_of HT_.out (by kernel_rfl)) (by decide) (fun K hK => ?_)
          refine Kd.R_append_step k47 (w0 := U) 0 (by rfl) (.tmp 39) (.tmp 41) 22 47 (.agg #[.string ⟨#[]⟩, .int .i64 0, .bool false]) 32 rfl Try.underlying22 infoS rfl (by decide) (by omega) (.slice AR R.length cR) R ⟨x.f0, 0, true⟩ [.string x.f0, .int .i64 0, .bool true] (fun k => w.heap.size < k) (fun _ => False) rfl rfl (k47_mkM _ _ _ ⟨x.f0, 0, true⟩) (fun _ hk => hk.elim) ?aF ?aO ?aB ?aS ?aL ?_
          (case aF => exact (fun k hk => by omega))
          (case aO => exact HRR.out)
          (case aB => exact ⟨rfl, rfl, rfl, Nat.le_refl _, fun _ _ => rfl⟩)
          (case aS => exact Nat.zero_le _)
          (case aL => omega)
          intro v2 w2 ho hb hg hat
          obtain ⟨A5, c5, e5, hc5, _⟩ := Kd.R_reads ho
          rw [List.length_append, List.length_singleton] at e5 hc5
          subst e5
          have HO5 := Aside0.mk ho
          have HG5 := Aside0.mk hg
          have hrn : ∀ k, (Value.slice AR R.length cR).ownBlock = some k → w.heap.size < k ∧ k ≠ wr.heap.size := fun k e => ⟨((Kd.R_bound HRR.out).1 k e).1, HNE.out k e⟩
          have b0 := (hg.block w.heap.size hrU (fun e => by have := (hrn _ e.symm).1; omega)).trans HKR.out
          have b1 := (hg.block wr.heap.size (blk_lt HKU.out) (fun e => (hrn _ e.symm).2 rfl)).trans HKU.out
          refine hK.out _ _ ⟨blk_cell b0 0, blk_cell b1 0, blk_cell b1 1, blk_cell b1 2⟩ (fun hHeld3 => ?_)
          clear hK K
          refine norm_ (a' := ?_) ?_ ?_
          rotate_left
          · show Act.put _ (some 42) _ = _
            simp only [Act.put, List.setIfInBounds_toArray, List.set_cons_zero, List.set_cons_succ, i64_w, i32_w]
            rfl
          refine pure_ (i := 8) (N := some 43) (v := ?_) (a' := ?_) #[true, true, true, true, true, true, true, true, true, false, false] rfl rfl (any_of HT_.out (by kernel_rfl)) (fun _ _ _ h => h) (Or.inl ⟨by rfl, ?_⟩) ?_ ?_
          rotate_left
          · intro w'
            go_simp
            with_reducible rfl
          rotate_left
          · simp only [Act.put, List.setIfInBounds_toArray, List.set_cons_zero, List.set_cons_succ, i64_w, i32_w]
            rfl
          refine pure_ (i := 9) (N := some 44) (v := ?_) (a' := ?_) #[true, true, true, true, true, true, true, true, true, true, false] rfl rfl (any_of HT_.out (by kernel_rfl)) (fun _ _ _ h => h) (Or.inl ⟨by rfl, ?_⟩) ?_ ?_
          rotate_left
          · intro w'
            go_simp
            with_reducible rfl
          rotate_left
          · simp only [Act.put, List.setIfInBounds_toArray, List.set_cons_zero, List.set_cons_succ, i64_w, i32_w]
            rfl
          have hfz := blk_frozen b0 0
          have c00 := hHeld3.1
          refine last_ (i := 10) (N := none) #[true, true, true, true, true, true, true, true, true, true, true] rfl rfl (one_of HT_.out (by kernel_rfl)) (by decide) (fun K hK => ?_)
          refine skip_ (w1 := ?_) (by rfl) rfl ?_ ?_
          rotate_left
          · go_simp
            rfl
          refine hK.out _ _ ?_
          clear hK K
          refine done_ (done_of HT_.out (by kernel_rfl)) ?_
          go_wp2
          go_roundg (l.length - (i + 1))
          case measure => omega
          case rel =>
            refine ⟨i + 1, by omega, Nat.le_refl _, by go_num, ⟨?_⟩, ⟨?_⟩⟩
            · rw [HTT.out, HE.out]
              exact ⟨A5, c5, by rw [List.length_append, List.length_singleton]; exact blk_set b0 0 _, by rw [List.length_append, List.length_singleton]; exact Kd.R_far HO5.out (p := ⟨w.heap.size, 0, none⟩) (fun k hk => by show k ≠ w.heap.size; omega) _⟩
            · have hB2 : Below w.heap.size w w2 := HB1.out.trans ⟨HG5.out.os, HG5.out.tape, HG5.out.output, HG5.out.size, fun k hk => HG5.out.block k (Nat.lt_of_lt_of_le hk HB1.out.size) (fun e => by have := (hrn _ e.symm).1; omega)⟩
              exact hB2.setCell (Nat.le_refl _) _
      · have t0 : decide (x.f1 < 0) = true := decide_eq_true n0
        rw [f2] at x2
        have eA : asR (toR x) = ⟨x.f0, 0, false⟩ := by rw [HAS.out, f2]
        have HEA := Aside0.mk eA
        clear eA
        cases hf : findR R x.f0 with
        | some z =>
          have hFs := findSome_calls w.heap.size _ R [] x.f0 (wr.alloc (.cells #[.string x.f0, .int .i64 0, .bool false] 47 (0, 0))) (HU.out.below (below_alloc (Below.refl _ _) _)).ref (by omega) hf
          have HE := Aside0.mk (show addRs R (toR x) = R by unfold addRs; rw [show (toR x).f0 = x.f0 from rfl, hf]; rfl)
          clear hf
          go_wp2_with (go_at_call 29; refine hFs.mono ?_; rintro e w1 ⟨⟨kf, rfl, hkf, _⟩, d1⟩; have hkn : decide ((kf : Int) < 0) = false := decide_eq_false (by omega); have hkm : ¬ ((kf : Int) < 0) := by omega)
          have hb1 : Below wr.heap.size wr w1 := (below_alloc (Below.refl _ _) _).trans (d1.below.mono (by simp))
          go_roundg (l.length - (i + 1))
          case measure => omega
          case rel => exact ⟨i + 1, by omega, Nat.le_refl _, by go_num, ⟨by rw [HTT.out, HE.out]; exact HU.out.below hb1⟩, ⟨below_go HB.out HB.out.size hb1⟩⟩
        | none =>
          have hFn := findNone_calls w.heap.size _ R [] x.f0 (wr.alloc (.cells #[.string x.f0, .int .i64 0, .bool false] 47 (0, 0))) (HU.out.below (below_alloc (Below.refl _ _) _)).ref (by omega) hf
          have HE := Aside0.mk (show addRs R (toR x) = R ++ [⟨x.f0, 0, false⟩] by unfold addRs; rw [show (toR x).f0 = x.f0 from rfl, hf, HEA.out]; rfl)
          clear hf
          go_upto_region 11 with (go_at_call 29; refine hFn.mono ?_; rintro e w1 ⟨rfl, d1⟩)
          have hb1 : Below wr.heap.size wr w1 := (below_alloc (Below.refl _ _) _).trans (d1.below.mono (by simp))
          have kb1 : w1.heap[wr.heap.size]? = some (.cells #[.string x.f0, .int .i64 0, .bool false] 47 (0, 0)) := blk_below (blk_new _ _) d1.below
          obtain ⟨U, hU⟩ : ∃ U, U = w1.drew := ⟨_, rfl⟩
          have hbU : Below w1.heap.size w1 U := by rw [hU]; exact below_drew1 (Below.refl _ _)
          have kbU := blk_below kb1 hbU
          have HB1 := Aside0.mk (below_go HB.out HB.out.size (below_go hb1 hb1.size hbU))
          obtain ⟨AR, cR, kr0, hRR0⟩ := HU.out.own
          have kr := blk_below kr0 (below_go hb1 hb1.size hbU)
          have hRR := Kd.R_below hRR0 (below_go hb1 hb1.size hbU)
          have HRR := Aside0.mk hRR
          have HKR := Aside0.mk kr
          have hrU := blk_lt kr
          have hal : ∀ o, Below U.heap.size U (U.alloc o) := fun o => below_alloc (Below.refl _ _) _
          have s0 : U.cell? ⟨w.heap.size, 0, none⟩ = some (.slice AR R.length cR) := blk_cell kr 0
          have s1 : ∀ o, (U.alloc o).cell? ⟨w.heap.size, 0, none⟩ = some (.slice AR R.length cR) := fun o => blk_cell (blk_below kr (hal o)) 0
          have y0 : U.cell? ⟨wr.heap.size, 0, none⟩ = some (.string x.f0) := blk_cell kbU 0
          have y1 : U.cell? ⟨wr.heap.size, 1, none⟩ = some (.int .i64 0) := blk_cell kbU 1
          have y2 : U.cell? ⟨wr.heap.size, 2, none⟩ = some (.bool false) := blk_cell kbU 2
          rw [hU] at s0 s1 y0 y1 y2
          have HKU := Aside0.mk kbU
          have HNE := Aside0.mk (show ∀ k, (Value.slice AR R.length cR).ownBlock = some k → k ≠ wr.heap.size from fun k e q => by have := ((Kd.R_bound hRR0).1 k e).2.2.1; omega)
          clear hRR kr kb1 kbU hFn kr0 hRR0
          subst hU
          have hS0 : (w1.drew.cell? ⟨w.heap.size, 0, none⟩ = some (.slice AR R.length cR) ∧ w1.drew.cell? ⟨wr.heap.size, 0, none⟩ = some (.string x.f0) ∧ w1.drew.cell? ⟨wr.heap.size, 1, none⟩ = some (.int .i64 0) ∧ w1.drew.cell? ⟨wr.heap.size, 2, none⟩ = some (.bool false)) := ⟨s0, y0, y1, y2⟩
          clear s0 s1 y0 y1 y2 x0 x1 x2
          refine start_ (n := 11) (S := fun W' => W'.cell? ⟨w.heap.size, 0, none⟩ = some (.slice AR R.length cR) ∧ W'.cell? ⟨wr.heap.size, 0, none⟩ = some (.string x.f0) ∧ W'.cell? ⟨wr.heap.size, 1, none⟩ = some (.int .i64 0) ∧ W'.cell? ⟨wr.heap.size, 2, none⟩ = some (.bool false)) (ds := [10]) #[false, false, false, false, false, false, false, false, false, false, false] (by kernel_rfl) rfl rfl hS0 (fun hHeld => ?_)
          refine with_tabW RNew.tab11 RNew.bits11 (fun HT_ HW_ => ?_)
          generalize w1.drew = U at *
          refine pure_ (i := 0) (N := some 35) (v := ?_) (a' := ?_) #[true, false, false, false, false, false, false, false, false, false, false] rfl rfl (any_of HT_.out (by kernel_rfl)) (fun _ _ _ h => h) (Or.inl ⟨by rfl, ?_⟩) ?_ ?_
          rotate_left
          · intro w'
            go_simp
            with_reducible rfl
          rotate_left
          · simp only [Act.put, List.setIfInBounds_toArray, List.set_cons_zero, List.set_cons_succ, i64_w, i32_w]
            rfl
          refine pure_ (i := 1) (N := some 36) (v := ?_) (a' := ?_) #[true, true, false, false, false, false, false, false, false, false, false] rfl rfl (any_of HT_.out (by kernel_rfl)) (fun _ _ _ h => h) (Or.inl ⟨by rfl, ?_⟩) ?_ ?_
          rotate_left
          · intro w'
            go_simp
            with_reducible rfl
          rotate_left
          · simp only [Act.put, List.setIfInBounds_toArray, List.set_cons_zero, List.set_cons_succ, i64_w, i32_w]
            rfl
          refine pure_ (i := 2) (N := some 37) (v := ?_) (a' := ?_) #[true, true, true, false, false, false, false, false, false, false, false] rfl rfl (any_of HT_.out (by kernel_rfl)) (fun _ _ _ h => h) (Or.inl ⟨by rfl, ?_⟩) ?_ ?_
          rotate_left
          · intro w'
            go_simp
            with_reducible rfl
          rotate_left
          · simp only [Act.put, List.setIfInBounds_toArray, List.set_cons_zero, List.set_cons_succ, i64_w, i32_w]
            rfl
          refine pure_ (i := 3) (N := some 38) (v := ?_) (a' := ?_) #[true, true, true, true, false, false, false, false, false, false, false] rfl rfl (any_of HT_.out (by kernel_rfl)) (fun _ _ _ h => h) (Or.inl ⟨by rfl, ?_⟩) ?_ ?_
          rotate_left
          · intro w'
            go_simp
            with_reducible rfl
          rotate_left
          · simp only [Act.put, List.setIfInBounds_toArray, List.set_cons_zero, List.set_cons_succ, i64_w, i32_w]
            rfl
          refine take_ (i := 4) (N := some 39) (v := ?_) (a' := ?_) #[true, true, true, true, true, false, false, false, false, false, false] rfl rfl (take_ofW HT_.out HW_.out (by kernel_rfl)) (fun _ _ _ h => h) (Or.inl ⟨by rfl, ?_⟩) hHeld ?_ ?_
          rotate_left
          · rintro w' ⟨s0, s1, s2, s3⟩
            go_simp
            with_reducible rfl
          rotate_left
          · simp only [Act.put, List.setIfInBounds_toArray, List.set_cons_zero, List.set_cons_succ, i64_w, i32_w]
            rfl
          refine take_ (i := 5) (N := some 40) (v := ?_) (a' := ?_) #[true, true, true, true, true, true, false, false, false, false, false] rfl rfl (take_ofW HT_.out HW_.out (by kernel_rfl)) (fun _ _ _ h => h) (Or.inl ⟨by rfl, ?_⟩) hHeld ?_ ?_
          rotate_left
          · rintro w' ⟨s0, s1, s2, s3⟩
            go_simp
            with_reducible rfl
          rotate_left
          · simp only [Act.put, List.setIfInBounds_toArray, List.set_cons_zero, List.set_cons_succ, i64_w, i32_w]
            rfl
          refine one_ (i := 6) (N := some 41) #[true, true, true, true, true, true, true, false, false, false, false] rfl rfl (one_of HT_.out (by kernel_rfl)) (by decide) (fun K hK => ?_)
          refine value_ (w1 := ?_) (v := ?_) (by rfl) rfl ?_ ?_
          rotate_left 2
          · go_simp
            constructor
            · rfl
            · rfl
          refine hK.out _ _ (by exact ⟨(hal _ |>.cell (p := ⟨w.heap.size, 0, none⟩) (World.block_lt_of_cell? _ _ hHeld.1)).trans hHeld.1, (hal _ |>.cell (p := ⟨wr.heap.size, 0, none⟩) (World.block_lt_of_cell? _ _ hHeld.2.1)).trans hHeld.2.1, (hal _ |>.cell (p := ⟨wr.heap.size, 1, none⟩) (World.block_lt_of_cell? _ _ hHeld.2.2.1)).trans hHeld.2.2.1, (hal _ |>.cell (p := ⟨wr.heap.size, 2, none⟩) (World.block_lt_of_cell? _ _ hHeld.2.2.2)).trans hHeld.2.2.2⟩) (fun hHeld2 => ?_)
          clear hK K
          refine norm_ (a' := ?_) ?_ ?_
          rotate_left
          · show Act.put _ (some 41) _ = _
            simp only [Act.put, List.setIfInBounds_toArray, List.set_cons_zero, List.set_cons_succ, i64_w, i32_w]
            rfl
          refine one_ (i := 7) (N := some 42) #[true, true, true, true, true, true, true, true, false, false, false] rfl rfl (one_of HT_.out (by kernel_rfl)) (by decide) (fun K hK => ?_)
          refine Kd.R_append_step k47 (w0 := U) 0 (by rfl) (.tmp 39) (.tmp 41) 22 47 (.agg #[.string ⟨#[]⟩, .int .i64 0, .bool false]) 32 rfl Try.underlying22 infoS rfl (by decide) (by omega) (.slice AR R.length cR) R ⟨x.f0, 0, false⟩ [.string x.f0, .int .i64 0, .bool false] (fun k => w.heap.size < k) (fun _ => False) rfl rfl (k47_mkM _ _ _ ⟨x.f0, 0, false⟩) (fun _ hk => hk.elim) ?aF ?aO ?aB ?aS ?aL ?_
          (case aF => exact (fun k hk => by omega))
          (case aO => exact HRR.out)
          (case aB => exact ⟨rfl, rfl, rfl, Nat.le_refl _, fun _ _ => rfl⟩)
          (case aS => exact Nat.zero_le _)
          (case aL => omega)
          intro v2 w2 ho hb hg hat
          obtain ⟨A5, c5, e5, hc5, _⟩ := Kd.R_reads ho
          rw [List.length_append, List.length_singleton] at e5 hc5
          subst e5
          have HO5 := Aside0.mk ho
          have HG5 := Aside0.mk hg
          have hrn : ∀ k, (Value.slice AR R.length cR).ownBlock = some k → w.heap.size < k ∧ k ≠ wr.heap.size := fun k e => ⟨((Kd.R_bound HRR.out).1 k e).1, HNE.out k e⟩
          have b0 := (hg.block w.heap.size hrU (fun e => by have := (hrn _ e.symm).1; omega)).trans HKR.out
          have b1 := (hg.block wr.heap.size (blk_lt HKU.out) (fun e => (hrn _ e.symm).2 rfl)).trans HKU.out
          refine hK.out _ _ ⟨blk_cell b0 0, blk_cell b1 0, blk_cell b1 1, blk_cell b1 2⟩ (fun hHeld3 => ?_)
          clear hK K
          refine norm_ (a' := ?_) ?_ ?_
          rotate_left
          · show Act.put _ (some 42) _ = _
            simp only [Act.put, List.setIfInBounds_toArray, List.set_cons_zero, List.set_cons_succ, i64_w, i32_w]
            rfl
          refine pure_ (i := 8) (N := some 43) (v := ?_) (a' := ?_) #[true, true, true, true, true, true, true, true, true, false, false] rfl rfl (any_of HT_.out (by kernel_rfl)) (fun _ _ _ h => h) (Or.inl ⟨by rfl, ?_⟩) ?_ ?_
          rotate_left
          · intro w'
            go_simp
            with_reducible rfl
          rotate_left
          · simp only [Act.put, List.setIfInBounds_toArray, List.set_cons_zero, List.set_cons_succ, i64_w, i32_w]
            rfl
          refine pure_ (i := 9) (N := some 44) (v := ?_) (a' := ?_) #[true, true, true, true, true, true, true, true, true, true, false] rfl rfl (any_of HT_.out (by kernel_rfl)) (fun _ _ _ h => h) (Or.inl ⟨by rfl, ?_⟩) ?_ ?_
          rotate_left
          · intro w'
            go_simp
            with_reducible rfl
          rotate_left
          · simp only [Act.put, List.setIfInBounds_toArray, List.set_cons_zero, List.set_cons_succ, i64_w, i32_w]
            rfl
          have hfz := blk_frozen b0 0
          have c00 := hHeld3.1
          refine last_ (i := 10) (N := none) #[true, true, true, true, true, true, true, true, true, true, true] rfl rfl (one_of HT_.out (by kernel_rfl)) (by decide) (fun K hK => ?_)
          refine skip_ (w1 := ?_) (by rfl) rfl ?_ ?_
          rotate_left
          · go_simp
            rfl
          refine hK.out _ _ ?_
          clear hK K
          refine done_ (done_of HT_.out (by kernel_rfl)) ?_
          go_wp2
          go_roundg (l.length - (i + 1))
          case measure => omega
          case rel =>
            refine ⟨i + 1, by omega, Nat.le_refl _, by go_num, ⟨?_⟩, ⟨?_⟩⟩
            · rw [HTT.out, HE.out]
              exact ⟨A5, c5, by rw [List.length_append, List.length_singleton]; exact blk_set b0 0 _, by rw [List.length_append, List.length_singleton]; exact Kd.R_far HO5.out (p := ⟨w.heap.size, 0, none⟩) (fun k hk => by show k ≠ w.heap.size; omega) _⟩
            · have hB2 : Below w.heap.size w w2 := HB1.out.trans ⟨HG5.out.os, HG5.out.tape, HG5.out.output, HG5.out.size, fun k hk => HG5.out.block k (Nat.lt_of_lt_of_le hk HB1.out.size) (fun e => by have := (hrn _ e.symm).1; omega)⟩
              exact hB2.setCell (Nat.le_refl _) _
      · have t0 : decide (x.f1 < 0) = false := decide_eq_false n0
        have t1 : decide (x.f1 > 1000) = true := decide_eq_true n1
        rw [f2] at x2
        have eA : asR (toR x) = ⟨x.f0, 1000, false⟩ := by rw [HAS.out, f2]
        have HEA := Aside0.mk eA
        clear eA
        cases hf : findR R x.f0 with
        | some z =>
          have hFs := findSome_calls w.heap.size _ R [] x.f0 (wr.alloc (.cells #[.string x.f0, .int .i64 1000, .bool false] 47 (0, 0))) (HU.out.below (below_alloc (Below.refl _ _) _)).ref (by omega) hf
          have HE := Aside0.mk (show addRs R (toR x) = R by unfold addRs; rw [show (toR x).f0 = x.f0 from rfl, hf]; rfl)
          clear hf
          go_wp2_with (go_at_call 29; refine hFs.mono ?_; rintro e w1 ⟨⟨kf, rfl, hkf, _⟩, d1⟩; have hkn : decide ((kf : Int) < 0) = false := decide_eq_false (by omega); have hkm : ¬ ((kf : Int) < 0) := by omega)
          have hb1 : Below wr.heap.size wr w1 := (below_alloc (Below.refl _ _) _).trans (d1.below.mono (by simp))
          go_roundg (l.length - (i + 1))
          case measure => omega
          case rel => exact ⟨i + 1, by omega, Nat.le_refl _, by go_num, ⟨by rw [HTT.out, HE.out]; exact HU.out.below hb1⟩, ⟨below_go HB.out HB.out.size hb1⟩⟩
        | none =>
          have hFn := findNone_calls w.heap.size _ R [] x.f0 (wr.alloc (.cells #[.string x.f0, .int .i64 1000, .bool false] 47 (0, 0))) (HU.out.below (below_alloc (Below.refl _ _) _)).ref (by omega) hf
          have HE := Aside0.mk (show addRs R (toR x) = R ++ [⟨x.f0, 1000, false⟩] by unfold addRs; rw [show (toR x).f0 = x.f0 from rfl, hf, HEA.out]; rfl)
          clear hf
          go_upto_region 11 with (go_at_call 29; refine hFn.mono ?_; rintro e w1 ⟨rfl, d1⟩)
          have hb1 : Below wr.heap.size wr w1 := (below_alloc (Below.refl _ _) _).trans (d1.below.mono (by simp))
          have kb1 : w1.heap[wr.heap.size]? = some (.cells #[.string x.f0, .int .i64 1000, .bool false] 47 (0, 0)) := blk_below (blk_new _ _) d1.below
          obtain ⟨U, hU⟩ : ∃ U, U = w1.drew := ⟨_, rfl⟩
          have hbU : Below w1.heap.size w1 U := by rw [hU]; exact below_drew1 (Below.refl _ _)
          have kbU := blk_below kb1 hbU
          have HB1 := Aside0.mk (below_go HB.out HB.out.size (below_go hb1 hb1.size hbU))
          obtain ⟨AR, cR, kr0, hRR0⟩ := HU.out.own
          have kr := blk_below kr0 (below_go hb1 hb1.size hbU)
          have hRR := Kd.R_below hRR0 (below_go hb1 hb1.size hbU)
          have HRR := Aside0.mk hRR
          have HKR := Aside0.mk kr
          have hrU := blk_lt kr
          have hal : ∀ o, Below U.heap.size U (U.alloc o) := fun o => below_alloc (Below.refl _ _) _
          have s0 : U.cell? ⟨w.heap.size, 0, none⟩ = some (.slice AR R.length cR) := blk_cell kr 0
          have s1 : ∀ o, (U.alloc o).cell? ⟨w.heap.size, 0, none⟩ = some (.slice AR R.length cR) := fun o => blk_cell (blk_below kr (hal o)) 0
          have y0 : U.cell? ⟨wr.heap.size, 0, none⟩ = some (.string x.f0) := blk_cell kbU 0
          have y1 : U.cell? ⟨wr.heap.size, 1, none⟩ = some (.int .i64 1000) := blk_cell kbU 1
          have y2 : U.cell? ⟨wr.heap.size, 2, none⟩ = some (.bool false) := blk_cell kbU 2
          rw [hU] at s0 s1 y0 y1 y2
          have HKU := Aside0.mk kbU
          have HNE := Aside0.mk (show ∀ k, (Value.slice AR R.length cR).ownBlock = some k → k ≠ wr.heap.size from fun k e q => by have := ((Kd.R_bound hRR0).1 k e).2.2.1; omega)
          clear hRR kr kb1 kbU hFn kr0 hRR0
          subst hU
          have hS0 : (w1.drew.cell? ⟨w.heap.size, 0, none⟩ = some (.slice AR R.length cR) ∧ w1.drew.cell? ⟨wr.heap.size, 0, none⟩ = some (.string x.f0) ∧ w1.drew.cell? ⟨wr.heap.size, 1, none⟩ = some (.int .i64 1000) ∧ w1.drew.cell? ⟨wr.heap.size, 2, none⟩ = some (.bool false)) := ⟨s0, y0, y1, y2⟩
          clear s0 s1 y0 y1 y2 x0 x1 x2
          refine start_ (n := 11) (S := fun W' => W'.cell? ⟨w.heap.size, 0, none⟩ = some (.slice AR R.length cR) ∧ W'.cell? ⟨wr.heap.size, 0, none⟩ = some (.string x.f0) ∧ W'.cell? ⟨wr.heap.size, 1, none⟩ = some (.int .i64 1000) ∧ W'.cell? ⟨wr.heap.size, 2, none⟩ = some (.bool false)) (ds := [10]) #[false, false, false, false, false, false, false, false, false, false, false] (by kernel_rfl) rfl rfl hS0 (fun hHeld => ?_)
          refine with_tabW RNew.tab11 RNew.bits11 (fun HT_ HW_ => ?_)
          generalize w1.drew = U at *
          refine pure_ (i := 0) (N := some 35) (v := ?_) (a' := ?_) #[true, false, false, false, false, false, false, false, false, false, false] rfl rfl (any_of HT_.out (by kernel_rfl)) (fun _ _ _ h => h) (Or.inl ⟨by rfl, ?_⟩) ?_ ?_
          rotate_left
          · intro w'
            go_simp
            with_reducible rfl
          rotate_left
          · simp only [Act.put, List.setIfInBounds_toArray, List.set_cons_zero, List.set_cons_succ, i64_w, i32_w]
            rfl
          refine pure_ (i := 1) (N := some 36) (v := ?_) (a' := ?_) #[true, true, false, false, false, false, false, false, false, false, false] rfl rfl (any_of HT_.out (by kernel_rfl)) (fun _ _ _ h => h) (Or.inl ⟨by rfl, ?_⟩) ?_ ?_
          rotate_left
          · intro w'
            go_simp
            with_reducible rfl
          rotate_left
          · simp only [Act.put, List.setIfInBounds_toArray, List.set_cons_zero, List.set_cons_succ, i64_w, i32_w]
            rfl
          refine pure_ (i := 2) (N := some 37) (v := ?_) (a' := ?_) #[true, true, true, false, false, false, false, false, false, false, false] rfl rfl (any_of HT_.out (by kernel_rfl)) (fun _ _ _ h => h) (Or.inl ⟨by rfl, ?_⟩) ?_ ?_
          rotate_left
          · intro w'
            go_simp
            with_reducible rfl
          rotate_left
          · simp only [Act.put, List.setIfInBounds_toArray, List.set_cons_zero, List.set_cons_succ, i64_w, i32_w]
            rfl
          refine pure_ (i := 3) (N := some 38) (v := ?_) (a' := ?_) #[true, true, true, true, false, false, false, false, false, false, false] rfl rfl (any_of HT_.out (by kernel_rfl)) (fun _ _ _ h => h) (Or.inl ⟨by rfl, ?_⟩) ?_ ?_
          rotate_left
          · intro w'
            go_simp
            with_reducible rfl
          rotate_left
          · simp only [Act.put, List.setIfInBounds_toArray, List.set_cons_zero, List.set_cons_succ, i64_w, i32_w]
            rfl
          refine take_ (i := 4) (N := some 39) (v := ?_) (a' := ?_) #[true, true, true, true, true, false, false, false, false, false, false] rfl rfl (take_ofW HT_.out HW_.out (by kernel_rfl)) (fun _ _ _ h => h) (Or.inl ⟨by rfl, ?_⟩) hHeld ?_ ?_
          rotate_left
          · rintro w' ⟨s0, s1, s2, s3⟩
            go_simp
            with_reducible rfl
          rotate_left
          · simp only [Act.put, List.setIfInBounds_toArray, List.set_cons_zero, List.set_cons_succ, i64_w, i32_w]
            rfl
          refine take_ (i := 5) (N := some 40) (v := ?_) (a' := ?_) #[true, true, true, true, true, true, false, false, false, false, false] rfl rfl (take_ofW HT_.out HW_.out (by kernel_rfl)) (fun _ _ _ h => h) (Or.inl ⟨by rfl, ?_⟩) hHeld ?_ ?_
          rotate_left
          · rintro w' ⟨s0, s1, s2, s3⟩
            go_simp
            with_reducible rfl
          rotate_left
          · simp only [Act.put, List.setIfInBounds_toArray, List.set_cons_zero, List.set_cons_succ, i64_w, i32_w]
            rfl
          refine one_ (i := 6) (N := some 41) #[true, true, true, true, true, true, true, false, false, false, false] rfl rfl (one_of HT_.out (by kernel_rfl)) (by decide) (fun K hK => ?_)
          refine value_ (w1 := ?_) (v := ?_) (by rfl) rfl ?_ ?_
          rotate_left 2
          · go_simp
            constructor
            · rfl
            · rfl
          refine hK.out _ _ (by exact ⟨(hal _ |>.cell (p := ⟨w.heap.size, 0, none⟩) (World.block_lt_of_cell? _ _ hHeld.1)).trans hHeld.1, (hal _ |>.cell (p := ⟨wr.heap.size, 0, none⟩) (World.block_lt_of_cell? _ _ hHeld.2.1)).trans hHeld.2.1, (hal _ |>.cell (p := ⟨wr.heap.size, 1, none⟩) (World.block_lt_of_cell? _ _ hHeld.2.2.1)).trans hHeld.2.2.1, (hal _ |>.cell (p := ⟨wr.heap.size, 2, none⟩) (World.block_lt_of_cell? _ _ hHeld.2.2.2)).trans hHeld.2.2.2⟩) (fun hHeld2 => ?_)
          clear hK K
          refine norm_ (a' := ?_) ?_ ?_
          rotate_left
          · show Act.put _ (some 41) _ = _
            simp only [Act.put, List.setIfInBounds_toArray, List.set_cons_zero, List.set_cons_succ, i64_w, i32_w]
            rfl
          refine one_ (i := 7) (N := some 42) #[true, true, true, true, true, true, true, true, false, false, false] rfl rfl (one_of HT_.out (by kernel_rfl)) (by decide) (fun K hK => ?_)
          refine Kd.R_append_step k47 (w0 := U) 0 (by rfl) (.tmp 39) (.tmp 41) 22 47 (.agg #[.string ⟨#[]⟩, .int .i64 0, .bool false]) 32 rfl Try.underlying22 infoS rfl (by decide) (by omega) (.slice AR R.length cR) R ⟨x.f0, 1000, false⟩ [.string x.f0, .int .i64 1000, .bool false] (fun k => w.heap.size < k) (fun _ => False) rfl rfl (k47_mkM _ _ _ ⟨x.f0, 1000, false⟩) (fun _ hk => hk.elim) ?aF ?aO ?aB ?aS ?aL ?_
          (case aF => exact (fun k hk => by omega))
          (case aO => exact HRR.out)
          (case aB => exact ⟨rfl, rfl, rfl, Nat.le_refl _, fun _ _ => rfl⟩)
          (case aS => exact Nat.zero_le _)
          (case aL => omega)
          intro v2 w2 ho hb hg hat
          obtain ⟨A5, c5, e5, hc5, _⟩ := Kd.R_reads ho
          rw [List.length_append, List.length_singleton] at e5 hc5
          subst e5
          have HO5 := Aside0.mk ho
          have HG5 := Aside0.mk hg
          have hrn : ∀ k, (Value.slice AR R.length cR).ownBlock = some k → w.heap.size < k ∧ k ≠ wr.heap.size := fun k e => ⟨((Kd.R_bound HRR.out).1 k e).1, HNE.out k e⟩
          have b0 := (hg.block w.heap.size hrU (fun e => by have := (hrn _ e.symm).1; omega)).trans HKR.out
          have b1 := (hg.block wr.heap.size (blk_lt HKU.out) (fun e => (hrn _ e.symm).2 rfl)).trans HKU.out
          refine hK.out _ _ ⟨blk_cell b0 0, blk_cell b1 0, blk_cell b1 1, blk_cell b1 2⟩ (fun hHeld3 => ?_)
          clear hK K
          refine norm_ (a' := ?_) ?_ ?_
          rotate_left
          · show Act.put _ (some 42) _ = _
            simp only [Act.put, List.setIfInBounds_toArray, List.set_cons_zero, List.set_cons_succ, i64_w, i32_w]
            rfl
          refine pure_ (i := 8) (N := some 43) (v := ?_) (a' := ?_) #[true, true, true, true, true, true, true, true, true, false, false] rfl rfl (any_of HT_.out (by kernel_rfl)) (fun _ _ _ h => h) (Or.inl ⟨by rfl, ?_⟩) ?_ ?_
          rotate_left
          · intro w'
            go_simp
            with_reducible rfl
          rotate_left
          · simp only [Act.put, List.setIfInBounds_toArray, List.set_cons_zero, List.set_cons_succ, i64_w, i32_w]
            rfl
          refine pure_ (i := 9) (N := some 44) (v := ?_) (a' := ?_) #[true, true, true, true, true, true, true, true, true, true, false] rfl rfl (any_of HT_.out (by kernel_rfl)) (fun _ _ _ h => h) (Or.inl ⟨by rfl, ?_⟩) ?_ ?_
          rotate_left
          · intro w'
            go_simp
            with_reducible rfl
          rotate_left
          · simp only [Act.put, List.setIfInBounds_toArray, List.set_cons_zero, List.set_cons_succ, i64_w, i32_w]
            rfl
          have hfz := blk_frozen b0 0
          have c00 := hHeld3.1
          refine last_ (i := 10) (N := none) #[true, true, true, true, true, true, true, true, true, true, true] rfl rfl (one_of HT_.out (by kernel_rfl)) (by decide) (fun K hK => ?_)
          refine skip_ (w1 := ?_) (by rfl) rfl ?_ ?_
          rotate_left
          · go_simp
            rfl
          refine hK.out _ _ ?_
          clear hK K
          refine done_ (done_of HT_.out (by kernel_rfl)) ?_
          go_wp2
          go_roundg (l.length - (i + 1))
          case measure => omega
          case rel =>
            refine ⟨i + 1, by omega, Nat.le_refl _, by go_num, ⟨?_⟩, ⟨?_⟩⟩
            · rw [HTT.out, HE.out]
              exact ⟨A5, c5, by rw [List.length_append, List.length_singleton]; exact blk_set b0 0 _, by rw [List.length_append, List.length_singleton]; exact Kd.R_far HO5.out (p := ⟨w.heap.size, 0, none⟩) (fun k hk => by show k ≠ w.heap.size; omega) _⟩
            · have hB2 : Below w.heap.size w w2 := HB1.out.trans ⟨HG5.out.os, HG5.out.tape, HG5.out.output, HG5.out.size, fun k hk => HG5.out.block k (Nat.lt_of_lt_of_le hk HB1.out.size) (fun e => by have := (hrn _ e.symm).1; omega)⟩
              exact hB2.setCell (Nat.le_refl _) _
      · have t0 : decide (x.f1 < 0) = false := decide_eq_false n0
        have t1 : decide (x.f1 > 1000) = false := decide_eq_false n1
        rw [f2] at x2
        have eA : asR (toR x) = ⟨x.f0, x.f1, false⟩ := by rw [HAS.out, f2]
        have HEA := Aside0.mk eA
        clear eA
        cases hf : findR R x.f0 with
        | some z =>
          have hFs := findSome_calls w.heap.size _ R [] x.f0 (wr.alloc (.cells #[.string x.f0, .int .i64 x.f1, .bool false] 47 (0, 0))) (HU.out.below (below_alloc (Below.refl _ _) _)).ref (by omega) hf
          have HE := Aside0.mk (show addRs R (toR x) = R by unfold addRs; rw [show (toR x).f0 = x.f0 from rfl, hf]; rfl)
          clear hf
          go_wp2_with (go_at_call 29; refine hFs.mono ?_; rintro e w1 ⟨⟨kf, rfl, hkf, _⟩, d1⟩; have hkn : decide ((kf : Int) < 0) = false := decide_eq_false (by omega); have hkm : ¬ ((kf : Int) < 0) := by omega)
          have hb1 : Below wr.heap.size wr w1 := (below_alloc (Below.refl _ _) _).trans (d1.below.mono (by simp))
          go_roundg (l.length - (i + 1))
          case measure => omega
          case rel => exact ⟨i + 1, by omega, Nat.le_refl _, by go_num, ⟨by rw [HTT.out, HE.out]; exact HU.out.below hb1⟩, ⟨below_go HB.out HB.out.size hb1⟩⟩
        | none =>
          have hFn := findNone_calls w.heap.size _ R [] x.f0 (wr.alloc (.cells #[.string x.f0, .int .i64 x.f1, .bool false] 47 (0, 0))) (HU.out.below (below_alloc (Below.refl _ _) _)).ref (by omega) hf
          have HE := Aside0.mk (show addRs R (toR x) = R ++ [⟨x.f0, x.f1, false⟩] by unfold addRs; rw [show (toR x).f0 = x.f0 from rfl, hf, HEA.out]; rfl)
          clear hf
          go_upto_region 11 with (go_at_call 29; refine hFn.mono ?_; rintro e w1 ⟨rfl, d1⟩)
          have hb1 : Below wr.heap.size wr w1 := (below_alloc (Below.refl _ _) _).trans (d1.below.mono (by simp))
          have kb1 : w1.heap[wr.heap.size]? = some (.cells #[.string x.f0, .int .i64 x.f1, .bool false] 47 (0, 0)) := blk_below (blk_new _ _) d1.below
          obtain ⟨U, hU⟩ : ∃ U, U = w1.drew := ⟨_, rfl⟩
          have hbU : Below w1.heap.size w1 U := by rw [hU]; exact below_drew1 (Below.refl _ _)
          have kbU := blk_below kb1 hbU
          have HB1 := Aside0.mk (below_go HB.out HB.out.size (below_go hb1 hb1.size hbU))
          obtain ⟨AR, cR, kr0, hRR0⟩ := HU.out.own
          have kr := blk_below kr0 (below_go hb1 hb1.size hbU)
          have hRR := Kd.R_below hRR0 (below_go hb1 hb1.size hbU)
          have HRR := Aside0.mk hRR
          have HKR := Aside0.mk kr
          have hrU := blk_lt kr
          have hal : ∀ o, Below U.heap.size U (U.alloc o) := fun o => below_alloc (Below.refl _ _) _
          have s0 : U.cell? ⟨w.heap.size, 0, none⟩ = some (.slice AR R.length cR) := blk_cell kr 0
          have s1 : ∀ o, (U.alloc o).cell? ⟨w.heap.size, 0, none⟩ = some (.slice AR R.length cR) := fun o => blk_cell (blk_below kr (hal o)) 0
          have y0 : U.cell? ⟨wr.heap.size, 0, none⟩ = some (.string x.f0) := blk_cell kbU 0
          have y1 : U.cell? ⟨wr.heap.size, 1, none⟩ = some (.int .i64 x.f1) := blk_cell kbU 1
          have y2 : U.cell? ⟨wr.heap.size, 2, none⟩ = some (.bool false) := blk_cell kbU 2
          rw [hU] at s0 s1 y0 y1 y2
          have HKU := Aside0.mk kbU
          have HNE := Aside0.mk (show ∀ k, (Value.slice AR R.length cR).ownBlock = some k → k ≠ wr.heap.size from fun k e q => by have := ((Kd.R_bound hRR0).1 k e).2.2.1; omega)
          clear hRR kr kb1 kbU hFn kr0 hRR0
          subst hU
          have hS0 : (w1.drew.cell? ⟨w.heap.size, 0, none⟩ = some (.slice AR R.length cR) ∧ w1.drew.cell? ⟨wr.heap.size, 0, none⟩ = some (.string x.f0) ∧ w1.drew.cell? ⟨wr.heap.size, 1, none⟩ = some (.int .i64 x.f1) ∧ w1.drew.cell? ⟨wr.heap.size, 2, none⟩ = some (.bool false)) := ⟨s0, y0, y1, y2⟩
          clear s0 s1 y0 y1 y2 x0 x1 x2
          refine start_ (n := 11) (S := fun W' => W'.cell? ⟨w.heap.size, 0, none⟩ = some (.slice AR R.length cR) ∧ W'.cell? ⟨wr.heap.size, 0, none⟩ = some (.string x.f0) ∧ W'.cell? ⟨wr.heap.size, 1, none⟩ = some (.int .i64 x.f1) ∧ W'.cell? ⟨wr.heap.size, 2, none⟩ = some (.bool false)) (ds := [10]) #[false, false, false, false, false, false, false, false, false, false, false] (by kernel_rfl) rfl rfl hS0 (fun hHeld => ?_)
          refine with_tabW RNew.tab11 RNew.bits11 (fun HT_ HW_ => ?_)
          generalize w1.drew = U at *
          refine pure_ (i := 0) (N := some 35) (v := ?_) (a' := ?_) #[true, false, false, false, false, false, false, false, false, false, false] rfl rfl (any_of HT_.out (by kernel_rfl)) (fun _ _ _ h => h) (Or.inl ⟨by rfl, ?_⟩) ?_ ?_
          rotate_left
          · intro w'
            go_simp
            with_reducible rfl
          rotate_left
          · simp only [Act.put, List.setIfInBounds_toArray, List.set_cons_zero, List.set_cons_succ, i64_w, i32_w]
            rfl
          refine pure_ (i := 1) (N := some 36) (v := ?_) (a' := ?_) #[true, true, false, false, false, false, false, false, false, false, false] rfl rfl (any_of HT_.out (by kernel_rfl)) (fun _ _ _ h => h) (Or.inl ⟨by rfl, ?_⟩) ?_ ?_
          rotate_left
          · intro w'
            go_simp
            with_reducible rfl
          rotate_left
          · simp only [Act.put, List.setIfInBounds_toArray, List.set_cons_zero, List.set_cons_succ, i64_w, i32_w]
            rfl
          refine pure_ (i := 2) (N := some 37) (v := ?_) (a' := ?_) #[true, true, true, false, false, false, false, false, false, false, false] rfl rfl (any_of HT_.out (by kernel_rfl)) (fun _ _ _ h => h) (Or.inl ⟨by rfl, ?_⟩) ?_ ?_
          rotate_left
          · intro w'
            go_simp
            with_reducible rfl
          rotate_left
          · simp only [Act.put, List.setIfInBounds_toArray, List.set_cons_zero, List.set_cons_succ, i64_w, i32_w]
            rfl
          refine pure_ (i := 3) (N := some 38) (v := ?_) (a' := ?_) #[true, true, true, true, false, false, false, false, false, false, false] rfl rfl (any_of HT_.out (by kernel_rfl)) (fun _ _ _ h => h) (Or.inl ⟨by rfl, ?_⟩) ?_ ?_
          rotate_left
          · intro w'
            go_simp
            with_reducible rfl
          rotate_left
          · simp only [Act.put, List.setIfInBounds_toArray, List.set_cons_zero, List.set_cons_succ, i64_w, i32_w]
            rfl
          refine take_ (i := 4) (N := some 39) (v := ?_) (a' := ?_) #[true, true, true, true, true, false, false, false, false, false, false] rfl rfl (take_ofW HT_.out HW_.out (by kernel_rfl)) (fun _ _ _ h => h) (Or.inl ⟨by rfl, ?_⟩) hHeld ?_ ?_
          rotate_left
          · rintro w' ⟨s0, s1, s2, s3⟩
            go_simp
            with_reducible rfl
          rotate_left
          · simp only [Act.put, List.setIfInBounds_toArray, List.set_cons_zero, List.set_cons_succ, i64_w, i32_w]
            rfl
          refine take_ (i := 5) (N := some 40) (v := ?_) (a' := ?_) #[true, true, true, true, true, true, false, false, false, false, false] rfl rfl (take_ofW HT_.out HW_.out (by kernel_rfl)) (fun _ _ _ h => h) (Or.inl ⟨by rfl, ?_⟩) hHeld ?_ ?_
          rotate_left
          · rintro w' ⟨s0, s1, s2, s3⟩
            go_simp
            with_reducible rfl
          rotate_left
          · simp only [Act.put, List.setIfInBounds_toArray, List.set_cons_zero, List.set_cons_succ, i64_w, i32_w]
            rfl
          refine one_ (i := 6) (N := some 41) #[true, true, true, true, true, true, true, false, false, false, false] rfl rfl (one_of HT_.out (by kernel_rfl)) (by decide) (fun K hK => ?_)
          refine value_ (w1 := ?_) (v := ?_) (by rfl) rfl ?_ ?_
          rotate_left 2
          · go_simp
            constructor
            · rfl
            · rfl
          refine hK.out _ _ (by exact ⟨(hal _ |>.cell (p := ⟨w.heap.size, 0, none⟩) (World.block_lt_of_cell? _ _ hHeld.1)).trans hHeld.1, (hal _ |>.cell (p := ⟨wr.heap.size, 0, none⟩) (World.block_lt_of_cell? _ _ hHeld.2.1)).trans hHeld.2.1, (hal _ |>.cell (p := ⟨wr.heap.size, 1, none⟩) (World.block_lt_of_cell? _ _ hHeld.2.2.1)).trans hHeld.2.2.1, (hal _ |>.cell (p := ⟨wr.heap.size, 2, none⟩) (World.block_lt_of_cell? _ _ hHeld.2.2.2)).trans hHeld.2.2.2⟩) (fun hHeld2 => ?_)
          clear hK K
          refine norm_ (a' := ?_) ?_ ?_
          rotate_left
          · show Act.put _ (some 41) _ = _
            simp only [Act.put, List.setIfInBounds_toArray, List.set_cons_zero, List.set_cons_succ, i64_w, i32_w]
            rfl
          refine one_ (i := 7) (N := some 42) #[true, true, true, true, true, true, true, true, false, false, false] rfl rfl (one_of HT_.out (by kernel_rfl)) (by decide) (fun K hK => ?_)
          refine Kd.R_append_step k47 (w0 := U) 0 (by rfl) (.tmp 39) (.tmp 41) 22 47 (.agg #[.string ⟨#[]⟩, .int .i64 0, .bool false]) 32 rfl Try.underlying22 infoS rfl (by decide) (by omega) (.slice AR R.length cR) R ⟨x.f0, x.f1, false⟩ [.string x.f0, .int .i64 x.f1, .bool false] (fun k => w.heap.size < k) (fun _ => False) rfl rfl (k47_mkM _ _ _ ⟨x.f0, x.f1, false⟩) (fun _ hk => hk.elim) ?aF ?aO ?aB ?aS ?aL ?_
          (case aF => exact (fun k hk => by omega))
          (case aO => exact HRR.out)
          (case aB => exact ⟨rfl, rfl, rfl, Nat.le_refl _, fun _ _ => rfl⟩)
          (case aS => exact Nat.zero_le _)
          (case aL => omega)
          intro v2 w2 ho hb hg hat
          obtain ⟨A5, c5, e5, hc5, _⟩ := Kd.R_reads ho
          rw [List.length_append, List.length_singleton] at e5 hc5
          subst e5
          have HO5 := Aside0.mk ho
          have HG5 := Aside0.mk hg
          have hrn : ∀ k, (Value.slice AR R.length cR).ownBlock = some k → w.heap.size < k ∧ k ≠ wr.heap.size := fun k e => ⟨((Kd.R_bound HRR.out).1 k e).1, HNE.out k e⟩
          have b0 := (hg.block w.heap.size hrU (fun e => by have := (hrn _ e.symm).1; omega)).trans HKR.out
          have b1 := (hg.block wr.heap.size (blk_lt HKU.out) (fun e => (hrn _ e.symm).2 rfl)).trans HKU.out
          refine hK.out _ _ ⟨blk_cell b0 0, blk_cell b1 0, blk_cell b1 1, blk_cell b1 2⟩ (fun hHeld3 => ?_)
          clear hK K
          refine norm_ (a' := ?_) ?_ ?_
          rotate_left
          · show Act.put _ (some 42) _ = _
            simp only [Act.put, List.setIfInBounds_toArray, List.set_cons_zero, List.set_cons_succ, i64_w, i32_w]
            rfl
          refine pure_ (i := 8) (N := some 43) (v := ?_) (a' := ?_) #[true, true, true, true, true, true, true, true, true, false, false] rfl rfl (any_of HT_.out (by kernel_rfl)) (fun _ _ _ h => h) (Or.inl ⟨by rfl, ?_⟩) ?_ ?_
          rotate_left
          · intro w'
            go_simp
            with_reducible rfl
          rotate_left
          · simp only [Act.put, List.setIfInBounds_toArray, List.set_cons_zero, List.set_cons_succ, i64_w, i32_w]
            rfl
          refine pure_ (i := 9) (N := some 44) (v := ?_) (a' := ?_) #[true, true, true, true, true, true, true, true, true, true, false] rfl rfl (any_of HT_.out (by kernel_rfl)) (fun _ _ _ h => h) (Or.inl ⟨by rfl, ?_⟩) ?_ ?_
          rotate_left
          · intro w'
            go_simp
            with_reducible rfl
          rotate_left
          · simp only [Act.put, List.setIfInBounds_toArray, List.set_cons_zero, List.set_cons_succ, i64_w, i32_w]
            rfl
          have hfz := blk_frozen b0 0
          have c00 := hHeld3.1
          refine last_ (i := 10) (N := none) #[true, true, true, true, true, true, true, true, true, true, true] rfl rfl (one_of HT_.out (by kernel_rfl)) (by decide) (fun K hK => ?_)
          refine skip_ (w1 := ?_) (by rfl) rfl ?_ ?_
          rotate_left
          · go_simp
            rfl
          refine hK.out _ _ ?_
          clear hK K
          refine done_ (done_of HT_.out (by kernel_rfl)) ?_
          go_wp2
          go_roundg (l.length - (i + 1))
          case measure => omega
          case rel =>
            refine ⟨i + 1, by omega, Nat.le_refl _, by go_num, ⟨?_⟩, ⟨?_⟩⟩
            · rw [HTT.out, HE.out]
              exact ⟨A5, c5, by rw [List.length_append, List.length_singleton]; exact blk_set b0 0 _, by rw [List.length_append, List.length_singleton]; exact Kd.R_far HO5.out (p := ⟨w.heap.size, 0, none⟩) (fun k hk => by show k ≠ w.heap.size; omega) _⟩
            · have hB2 : Below w.heap.size w w2 := HB1.out.trans ⟨HG5.out.os, HG5.out.tape, HG5.out.output, HG5.out.size, fun k hk => HG5.out.block k (Nat.lt_of_lt_of_le hk HB1.out.size) (fun e => by have := (hrn _ e.symm).1; omega)⟩
              exact hB2.setCell (Nat.le_refl _) _
    · have b2 : decide ((i : Int) < (l.length : Int)) = false := decide_eq_false (by omega)
      have hU := HU.out
      rw [List.take_of_length_le (by omega)] at hU
      go_wp2
      go_ret
      exact ⟨rfl, hU.ref, HB.out⟩
end Go.Proofs.Ytgdnljhndjlefaa.QNeedFits
