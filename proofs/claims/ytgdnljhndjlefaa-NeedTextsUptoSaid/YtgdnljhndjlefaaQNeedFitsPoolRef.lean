/- The reference's pool: lists in order; find, Units, Free. No conditions beyond those that each theorem names. -/
import Derived.Test.YtgdnljhndjlefaaQNeedFitsPoolLaw
namespace Go.Proofs.Ytgdnljhndjlefaa.QNeedFits
open Go.RowKit Go.Proofs.Ytgdnljhndjlefaa.PNeedFits Go.Proofs.YtgdnljhndjlefaaW.PrintWords Go.Proofs.YtgdnljhndjlefaaW.PrintLast Go.Proofs.YtgdnljhndjlefaaW.PrintMore Go.Proofs.Ytgdnljhndjlefaa.MMaps
set_option linter.unusedVariables false
set_option linter.unusedSimpArgs false
set_option maxRecDepth 100000
/-- Block r is a reference's pool; the rows of its lists lie in blocks that are ok. -/
structure RefAt (w : World) (r : Nat) (ok : Nat → Prop) (R : List Rs) (H : List Hd) : Prop where
  own : ∃ A1 c1 A2 c2, w.heap[r]? = some (.cells #[.slice A1 R.length c1, .slice A2 H.length c2] 76 (0, 0)) ∧ k47.R 47 w 0 ok (.slice A1 R.length c1) R ∧ k56.R 56 w 0 ok (.slice A2 H.length c2) H
theorem RefAt.lt {w : World} {r : Nat} {ok : Nat → Prop} {R : List Rs} {H : List Hd} (h : RefAt w r ok R H) : r < w.heap.size := by obtain ⟨A, c, A', c', h1, _⟩ := h.own; exact blk_lt h1
theorem RefAt.below {w w' : World} {r : Nat} {ok : Nat → Prop} {R : List Rs} {H : List Hd} (h : RefAt w r ok R H) (hb : Below w.heap.size w w') : RefAt w' r ok R H := by
  obtain ⟨A, c, A', c', h1, h2, h3⟩ := h.own
  exact ⟨A, c, A', c', blk_below h1 hb, Kd.R_below h2 hb, Kd.R_below h3 hb⟩
theorem RefAt.grown {w w' : World} {r : Nat} {ok : Nat → Prop} {R : List Rs} {H : List Hd} {row : Option Nat} (h : RefAt w r ok R H) (hg : w.grownBy w' row) (hr : some r ≠ row) (ho : ∀ k, ok k → some k ≠ row) : RefAt w' r ok R H := by
  obtain ⟨A, c, A', c', h1, h2, h3⟩ := h.own
  exact ⟨A, c, A', c', (hg.block r (blk_lt h1) hr).trans h1, Kd.R_grown h2 hg ho, Kd.R_grown h3 hg ho⟩
theorem RefAt.mono {w : World} {r : Nat} {ok ok' : Nat → Prop} {R : List Rs} {H : List Hd} (h : RefAt w r ok R H) (hk : ∀ k, ok k → k < w.heap.size → ok' k) : RefAt w r ok' R H := by
  obtain ⟨A, c, A', c', h1, h2, h3⟩ := h.own
  exact ⟨A, c, A', c', h1, Kd.R_mono (Kd.R_bound h2) (fun k hk2 => hk k hk2.1 hk2.2.2.1), Kd.R_mono (Kd.R_bound h3) (fun k hk2 => hk k hk2.1 hk2.2.2.1)⟩
/-- What a reference's function reads. -/
theorem RefAt.reads {w : World} {r : Nat} {ok : Nat → Prop} {R : List Rs} {H : List Hd} (h : RefAt w r ok R H) : ∃ A1 c1 A2 c2, w.cell? ⟨r, 0, none⟩ = some (.slice A1 R.length c1) ∧ w.cell? ⟨r, 1, none⟩ = some (.slice A2 H.length c2) ∧ R.length ≤ c1 ∧ H.length ≤ c2 ∧ Kd.C k47 w A1 R.length R ∧ Kd.C k56 w A2 H.length H := by
  obtain ⟨A, c, A', c', h1, h2, h3⟩ := h.own
  obtain ⟨_, h4, h5⟩ := Kd.R_reads' h2
  obtain ⟨_, h6, h7⟩ := Kd.R_reads' h3
  exact ⟨A, c, A', c', blk_cell h1 0, blk_cell h1 1, h4, h6, h5, h7⟩
theorem drawn_trans {a b c : World} (h1 : Drawn0 a b) (h2 : Drawn0 b c) : Drawn0 a c := by
  obtain ⟨n, rfl⟩ := h1
  obtain ⟨m, rfl⟩ := h2
  exact ⟨n + m, by unfold World.drewN; simp [Nat.add_assoc]⟩
theorem rdhd_at (L : List Hd) (i : Nat) (h : i < L.length) : rd_T56 L (i : Int) = L[i] := by
  unfold rd_T56
  rw [Int.toNat_natCast]
  simp [List.getD, List.getElem?_eq_getElem h]
/-- Where a name stands. -/
def Stands (R : List Rs) (s : ByteArray) (k : Int) : Prop := (k = -1 ∧ findR R s = none) ∨ ∃ i : Nat, ∃ h : i < R.length, k = i ∧ findR R s = some R[i]
theorem stands_at {R : List Rs} {s : ByteArray} {i : Nat} (h : i < R.length) (h1 : eqS R[i].f0 s = true) (h2 : ∀ (j : Nat) (hj : j < R.length), j < i → eqS R[j].f0 s = false) : findR R s = some R[i] := by
  unfold findR
  rw [List.find?_eq_some_iff_getElem]
  exact ⟨h1, i, h, rfl, fun j hj => by rw [h2 j (by omega) hj]; rfl⟩
theorem stands_none {R : List Rs} {s : ByteArray} (h2 : ∀ (j : Nat) (hj : j < R.length), eqS R[j].f0 s = false) : findR R s = none := by
  unfold findR
  rw [List.find?_eq_none]
  intro x hx
  obtain ⟨j, hj, rfl⟩ := List.getElem_of_mem hx
  rw [h2 j hj]; simp
set_option maxHeartbeats 8000000 in
theorem find.calls (r : Nat) (ok : Nat → Prop) (R : List Rs) (H : List Hd) (s : ByteArray) (w : World) (h : RefAt w r ok R H) (hl : R.length ≤ 100000) : Calls Try.prog 29 #[.pointer (some ⟨r, 0, none⟩), .string s] w fun e w' => (∃ k, e = .returned (.int .i64 k) ∧ Stands R s k) ∧ Drawn0 w w' := by
  obtain ⟨A1, c1, A2, c2, r0, r1, hc1, hc2, hC, _⟩ := h.reads
  have HC := Aside0.mk hC
  clear hC h
  go_enter Try.func29, Try.ntmps29
  go_wp2
  go_loopg [5] R.length (fun gg s5 wr => ∃ kk : Nat, kk ≤ R.length ∧ R.length - kk ≤ gg ∧ s5 = .int .i64 kk ∧ Aside0 (Drawn0 w wr) ∧ Aside0 (∀ (j : Nat) (h : j < R.length), j < kk → eqS R[j].f0 s = false))
  case atStart => exact ⟨0, Nat.zero_le _, by omega, rfl, ⟨Drawn0.refl _⟩, ⟨fun j _ hj => absurd hj (Nat.not_lt_zero _)⟩⟩
  case round =>
    obtain ⟨kk, hkk, hg, rfl, BW, AA⟩ := hrel
    have q0 := (BW.out.below.cell (World.block_lt_of_cell? w _ r0)).trans r0
    clear r1
    by_cases hlt : kk < R.length
    · have hltz : (kk : Int) < (R.length : Int) := by omega
      have hz : (0 : Int) ≤ (kk : Int) := by omega
      obtain ⟨ad, e, x0, x1, x2⟩ := at_T47 HC.out (kk : Int) hz hltz
      cases e
      have hblk := World.block_lt_of_cell? w _ x0
      rw [rdrs_at R kk hlt, Int.toNat_natCast] at x0
      rw [Int.toNat_natCast] at hblk
      replace x0 := (BW.out.below.cell hblk).trans x0
      clear x1 x2
      have HST := Aside0.mk (fun (h1 : eqS R[kk].f0 s = true) => stands_at hlt h1 AA.out)
      obtain ⟨y, hy⟩ : ∃ y, R[kk] = y := ⟨_, rfl⟩
      have HY := Aside0.mk hy
      rw [hy] at x0 HST
      clear hy
      cases hq : eqS y.f0 s with
      | true =>
        have t1 : (y.f0.toList == s.toList) = true := hq
        have HQ := Aside0.mk hq
        clear hq
        go_wp2
        go_ret
        exact ⟨⟨kk, rfl, .inr ⟨kk, hlt, rfl, by rw [HY.out]; exact HST.out HQ.out⟩⟩, BW.out⟩
      | false =>
        have t1 : (y.f0.toList == s.toList) = false := hq
        have HQ := Aside0.mk hq
        clear hq
        go_wp2
        go_roundg (R.length - (kk + 1))
        case measure => omega
        case rel =>
          refine ⟨kk + 1, by omega, Nat.le_refl _, by go_num, BW, ⟨fun j h hj => ?_⟩⟩
          by_cases e : j = kk
          · subst e; rw [HY.out]; exact HQ.out
          · exact AA.out j h (by omega)
    · have hltz : ¬ (kk : Int) < (R.length : Int) := by omega
      have HN := Aside0.mk (stands_none (R := R) (s := s) (fun j hj => AA.out j hj (by omega)))
      go_wp2
      go_ret
      exact ⟨⟨-1, rfl, .inl ⟨rfl, HN.out⟩⟩, BW.out⟩
set_option maxHeartbeats 8000000 in
theorem RUnits.calls (r : Nat) (ok : Nat → Prop) (R : List Rs) (H : List Hd) (s : ByteArray) (w : World) (h : RefAt w r ok R H) (hl : R.length ≤ 100000) : Calls Try.prog 62 #[.pointer (some ⟨r, 0, none⟩), .string s] w fun e w' => e = .returned (.tuple #[.int .i64 (unitsOf R s).1, .int .i64 (unitsOf R s).2]) ∧ Drawn0 w w' := by
  have hF := find.calls r ok R H s w h hl
  obtain ⟨a, ha⟩ : ∃ a, unitsOf R s = a := ⟨_, rfl⟩
  rw [ha]
  unfold unitsOf at ha
  have HA := Aside0.mk ha
  have HR := Aside0.mk h
  clear ha h
  go_enter Try.func62, Try.ntmps62
  go_upto_region 2 with (go_at_call 29; refine hF.mono ?_; rintro e w1 ⟨⟨k, rfl, hst⟩, d1⟩)
  obtain ⟨A1, c1, A2, c2, r0, r1, hc1, hc2, hC, _⟩ := (HR.out.below d1.below).reads
  have HD := Aside0.mk d1
  clear r1 hF d1
  rcases hst with ⟨rfl, hn⟩ | ⟨i, hi, rfl, hs⟩
  · have ha := HA.out
    rw [hn] at ha
    subst ha
    go_wp2
    go_ret2
    exact ⟨rfl, HD.out⟩
  · have hz : (0 : Int) ≤ (i : Int) := by omega
    have hltz : (i : Int) < (R.length : Int) := by omega
    have hnn : decide ((i : Int) < 0) = false := decide_eq_false (by omega)
    obtain ⟨ad, e, x0, x1, x2⟩ := at_T47 hC (i : Int) hz hltz
    cases e
    rw [rdrs_at R i hi, Int.toNat_natCast] at x0 x1 x2
    have ha := HA.out
    rw [hs] at ha
    generalize R[i] = y at *
    clear hC hs
    cases hb : y.f2 with
    | true =>
      dsimp only at ha
      rw [hb] at x2 ha
      subst ha
      go_wp2
      go_ret2
      exact ⟨rfl, HD.out⟩
    | false =>
      dsimp only at ha
      rw [hb] at x2 ha
      subst ha
      go_wp2
      go_ret2
      exact ⟨rfl, HD.out⟩
theorem sumBy_append (g : Hd → Int) : ∀ (A B : List Hd), sumBy g (A ++ B) = sumBy g A + sumBy g B
  | [], B => by show sumBy g B = 0 + sumBy g B; omega
  | x :: r, B => by
    have := sumBy_append g r B
    show g x + sumBy g (r ++ B) = g x + sumBy g r + sumBy g B
    omega
theorem sumBy_take (g : Hd → Int) (H : List Hd) (i : Nat) (h : i < H.length) : sumBy g (H.take (i + 1)) = sumBy g (H.take i) + g H[i] := by
  rw [List.take_succ_eq_append_getElem h, sumBy_append]
  show _ + (g H[i] + 0) = _
  omega
set_option maxHeartbeats 8000000 in
theorem RFree.calls (r : Nat) (ok : Nat → Prop) (R : List Rs) (H : List Hd) (s : ByteArray) (w : World) (h : RefAt w r ok R H) (hgd : Good R H) : Calls Try.prog 49 #[.pointer (some ⟨r, 0, none⟩), .string s] w fun e w' => e = .returned (.tuple #[.int .i64 (freeOf R H s).1, .int .i64 (freeOf R H s).2]) ∧ Drawn0 w w' := by
  have hU := RUnits.calls r ok R H s w h hgd.rlen
  have hub : -1000 ≤ (unitsOf R s).1 ∧ (unitsOf R s).1 ≤ 1000 := by
    unfold unitsOf
    cases hf : findR R s with
    | none => simp
    | some x =>
      have := hgd.rwf x (findR_some hf).1
      dsimp only
      split
      · simp
      · dsimp only; omega
  have HR := Aside0.mk h
  have HG := Aside0.mk hgd
  have hln := hgd.hlen
  clear h hgd
  unfold freeOf
  generalize (unitsOf R s).1 = u at *
  generalize (unitsOf R s).2 = ee at *
  by_cases he : ee = 0
  · subst he
    rw [if_pos rfl]
    obtain ⟨a, ha⟩ : ∃ a, u - sumBy (ofName s) H = a := ⟨_, rfl⟩
    rw [ha]
    have HA := Aside0.mk ha
    clear ha
    go_enter Try.func49, Try.ntmps49
    go_wp2_with (go_at_call 62; refine hU.mono ?_; rintro e w1 ⟨rfl, d1⟩)
    obtain ⟨A1, c1, A2, c2, r0, r1, hc1, hc2, _, hC⟩ := (HR.out.below d1.below).reads
    have HC := Aside0.mk hC
    have HD := Aside0.mk d1
    clear hC d1 hU r0 HR
    go_loopg [6, 8] H.length (fun gg v6 v8 wr => ∃ i : Nat, i ≤ H.length ∧ H.length - i ≤ gg ∧ v8 = .int .i64 i ∧ v6 = .int .i64 (u - sumBy (ofName s) (H.take i)) ∧ Aside0 (Drawn0 w1 wr))
    case atStart => exact ⟨0, Nat.zero_le _, by omega, rfl, by simp [sumBy], ⟨Drawn0.refl _⟩⟩
    case round =>
      obtain ⟨i, hi, hg, rfl, rfl, BW⟩ := hrel
      have q1 := (BW.out.below.cell (World.block_lt_of_cell? w1 _ r1)).trans r1
      have hbd : ∀ h ∈ H.take i, 0 ≤ ofName s h ∧ ofName s h ≤ 1000 := fun h hh => by
        have := HG.out.hwf h (List.mem_of_mem_take hh)
        unfold ofName
        split <;> omega
      have hb1 := sumBy_le hbd
      rw [List.length_take] at hb1
      clear hbd
      by_cases hlt : i < H.length
      · have hltz : (i : Int) < (H.length : Int) := by omega
        have hz : (0 : Int) ≤ (i : Int) := by omega
        obtain ⟨ad, e, x0, x1, x2, x3⟩ := at_T56 HC.out (i : Int) hz hltz
        cases e
        have hblk := World.block_lt_of_cell? w1 _ x0
        rw [rdhd_at H i hlt, Int.toNat_natCast] at x1 x2
        rw [Int.toNat_natCast] at hblk
        have hst := sumBy_take (ofName s) H i hlt
        have hyb := HG.out.hwf _ (List.getElem_mem hlt)
        obtain ⟨y, hy⟩ : ∃ y, H[i] = y := ⟨_, rfl⟩
        rw [hy] at x1 x2 hst hyb
        replace x1 := (BW.out.below.cell (p := ⟨(ad.add (i * 4)).block, (ad.add (i * 4)).off + 1, none⟩) hblk).trans x1
        replace x2 := (BW.out.below.cell (p := ⟨(ad.add (i * 4)).block, (ad.add (i * 4)).off + 2, none⟩) hblk).trans x2
        clear hy x0 x3
        have HST := Aside0.mk hst
        clear hst
        generalize hS : sumBy (ofName s) (H.take i) = S at *
        clear hS
        cases hq : eqS y.f1 s with
        | true =>
          have eo : ofName s y = y.f2 := by unfold ofName; rw [hq, if_pos rfl]
          have t1 : (y.f1.toList == s.toList) = true := hq
          clear hq
          go_wp2
          go_roundg (H.length - (i + 1))
          case measure => omega
          case rel =>
            refine ⟨i + 1, by omega, Nat.le_refl _, by go_num, ?_, BW⟩
            rw [HST.out, eo]; go_num
        | false =>
          have eo : ofName s y = 0 := by unfold ofName; rw [hq, if_neg (by simp)]
          have t1 : (y.f1.toList == s.toList) = false := hq
          clear hq
          go_wp2
          go_roundg (H.length - (i + 1))
          case measure => omega
          case rel =>
            refine ⟨i + 1, by omega, Nat.le_refl _, by go_num, ?_, BW⟩
            rw [HST.out, eo]; go_num
      · have hltz : ¬ (i : Int) < (H.length : Int) := by omega
        have e : H.take i = H := List.take_of_length_le (by omega)
        have HE := Aside0.mk e
        clear e
        go_wp2
        go_ret2
        exact ⟨by rw [← HA.out, HE.out]; rfl, drawn_trans HD.out BW.out⟩
  · rw [if_neg he]
    have n0 : (ee == 0) = false := beq_eq_false_iff_ne.mpr he
    go_enter Try.func49, Try.ntmps49
    go_wp2_with (go_at_call 62; refine hU.mono ?_; rintro e w1 ⟨rfl, d1⟩)
    go_ret2
    exact ⟨rfl, d1⟩
end Go.Proofs.Ytgdnljhndjlefaa.QNeedFits
