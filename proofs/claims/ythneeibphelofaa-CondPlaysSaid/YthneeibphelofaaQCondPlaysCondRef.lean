/- The reference's store of conditions: a list in order. No conditions beyond those that each theorem names. -/
import Derived.Test.YthneeibphelofaaQCondPlaysCondAdds
import Derived.Test.YthneeibphelofaaQCondPlaysCondAny
namespace Go.Proofs.Ythneeibphelofaa.QCondPlays
open Go.RowKit Go.Proofs.Ythneeibphelofaa.PCondPlays Go.Proofs.YthneeibphelofaaW.PrintWords Go.Proofs.YthneeibphelofaaW.PrintLast Go.Proofs.YthneeibphelofaaW.PrintMore
set_option linter.unusedVariables false
set_option linter.unusedSimpArgs false
/-- Block r is a reference's store; its list's row lies in a block that is ok. -/
structure RefAt (w : World) (r : Nat) (ok : Nat → Prop) (L : List C) : Prop where
  own : ∃ A c, w.heap[r]? = some (.cells #[.slice A L.length c] 46 (0, 0)) ∧ k29.R 29 w 0 ok (.slice A L.length c) L
theorem RefAt.lt {w : World} {r : Nat} {ok : Nat → Prop} {L : List C} (h : RefAt w r ok L) : r < w.heap.size := by obtain ⟨A, c, h1, _⟩ := h.own; exact blk_lt h1
theorem RefAt.below {w w' : World} {r : Nat} {ok : Nat → Prop} {L : List C} (h : RefAt w r ok L) (hb : Below w.heap.size w w') : RefAt w' r ok L := by
  obtain ⟨A, c, h1, h2⟩ := h.own
  exact ⟨A, c, blk_below h1 hb, Kd.R_below h2 hb⟩
theorem RefAt.grown {w w' : World} {r : Nat} {ok : Nat → Prop} {L : List C} {row : Option Nat} (h : RefAt w r ok L) (hg : w.grownBy w' row) (hr : some r ≠ row) (ho : ∀ k, ok k → some k ≠ row) : RefAt w' r ok L := by
  obtain ⟨A, c, h1, h2⟩ := h.own
  exact ⟨A, c, (hg.block r (blk_lt h1) hr).trans h1, Kd.R_grown h2 hg ho⟩
theorem RefAt.mono {w : World} {r : Nat} {ok ok' : Nat → Prop} {L : List C} (h : RefAt w r ok L) (hk : ∀ k, ok k → k < w.heap.size → ok' k) : RefAt w r ok' L := by
  obtain ⟨A, c, h1, h2⟩ := h.own
  exact ⟨A, c, h1, Kd.R_mono (Kd.R_bound h2) (fun k hk2 => hk k hk2.1 hk2.2.2.1)⟩
/-- What a reference's function reads. -/
theorem RefAt.reads {w : World} {r : Nat} {ok : Nat → Prop} {L : List C} (h : RefAt w r ok L) : ∃ A c, w.cell? ⟨r, 0, none⟩ = some (.slice A L.length c) ∧ L.length ≤ c ∧ Kd.C k29 w A L.length L := by
  obtain ⟨A, c, h1, h2⟩ := h.own
  obtain ⟨_, h3, h4⟩ := Kd.R_reads' h2
  exact ⟨A, c, blk_cell h1 0, h3, h4⟩
set_option maxHeartbeats 8000000 in
set_option maxRecDepth 100000 in
theorem RNew.calls (w : World) : Calls Try.prog 17 #[] w fun e w' => e = .returned (.pointer (some ⟨w.heap.size, 0, none⟩)) ∧ (∀ ok, RefAt w' w.heap.size ok []) ∧ Below w.heap.size w w' := by
  go_enter Try.func17, Try.ntmps17
  go_wp2
  go_ret
  exact ⟨rfl, fun ok => ⟨none, 0, blk_new _ _, Kd.R_nil _ _ _ _ _⟩, below_alloc (Below.refl _ _) _⟩
set_option maxHeartbeats 8000000 in
set_option maxRecDepth 100000 in
theorem RAny.calls (r : Nat) (ok : Nat → Prop) (L : List C) (name : ByteArray) (w : World) (h : RefAt w r ok L) (hl : L.length ≤ 1000) : Calls Try.prog 23 #[.pointer (some ⟨r, 0, none⟩), .string name] w fun e w' => e = .returned (.bool (L.any fun c => c.f0.toList == name.toList)) ∧ Drawn0 w w' := by
  obtain ⟨A, cp, r0, hcp, hC⟩ := h.reads
  have HC := Aside0.mk hC
  clear hC h
  go_enter Try.func23, Try.ntmps23
  go_wp2
  go_loopg [5] L.length (fun gg s5 wr => ∃ kk : Nat, kk ≤ L.length ∧ L.length - kk ≤ gg ∧ s5 = .int .i64 kk ∧ Aside0 (Drawn0 w wr) ∧ Aside0 (∀ (j : Nat) (h : j < L.length), j < kk → (L[j].f0.toList == name.toList) = false))
  case atStart => exact ⟨0, Nat.zero_le _, by omega, rfl, ⟨Drawn0.refl _⟩, ⟨fun j _ hj => absurd hj (Nat.not_lt_zero _)⟩⟩
  case round =>
    obtain ⟨kk, hkk, hg, rfl, BW, AA⟩ := hrel
    have q0 := (BW.out.below.cell (World.block_lt_of_cell? w _ r0)).trans r0
    by_cases hlt : kk < L.length
    · have hltz : (kk : Int) < (L.length : Int) := by omega
      have hz : (0 : Int) ≤ (kk : Int) := by omega
      obtain ⟨ad, e, x0, x1⟩ := at_T29 HC.out (kk : Int) hz hltz
      cases e
      have hblk := World.block_lt_of_cell? w _ x0
      rw [rd_at L kk hlt, Int.toNat_natCast] at x0
      rw [Int.toNat_natCast] at hblk
      replace x0 := (BW.out.below.cell hblk).trans x0
      clear x1
      cases hq : (L[kk].f0.toList == name.toList) with
      | true =>
        have HM := Aside0.mk (List.getElem_mem hlt)
        have HQ := Aside0.mk hq
        generalize L[kk] = y at *
        go_wp2
        go_ret
        refine ⟨?_, Drawn0.mk (by obtain ⟨n, hn⟩ := BW.out; exact ⟨n, hn⟩)⟩
        have : (L.any fun c => c.f0.toList == name.toList) = true := List.any_eq_true.mpr ⟨y, HM.out, HQ.out⟩
        rw [this]; rfl
      | false =>
        have HQ := Aside0.mk hq
        obtain ⟨y, hy⟩ : ∃ y, L[kk].f0 = y := ⟨_, rfl⟩
        rw [hy] at x0 hq
        clear hy
        go_wp2
        go_roundg (L.length - (kk + 1))
        case measure => omega
        case rel =>
          refine ⟨kk + 1, by omega, by omega, by go_num, BW, ⟨fun j h hj => ?_⟩⟩
          by_cases e : j = kk
          · subst e; exact HQ.out
          · exact AA.out j h (by omega)
    · have hltz : ¬ (kk : Int) < (L.length : Int) := by omega
      go_wp2
      go_ret
      refine ⟨?_, BW.out⟩
      have : (L.any fun c => c.f0.toList == name.toList) = false := by
        rw [List.any_eq_false]
        intro x hx
        obtain ⟨j, hj, rfl⟩ := List.getElem_of_mem hx
        have := AA.out j hj (by omega)
        simp [this]
      rw [this]; rfl
theorem eq_false_of {a b : C} (h : a ≠ b) (h1 : a.f0.toList = b.f0.toList) : (a.f1 == b.f1) = false := by
  rw [beq_eq_false_iff_ne]
  intro e
  obtain ⟨a0, a1⟩ := a
  obtain ⟨b0, b1⟩ := b
  exact h (by rw [show a0 = b0 from toList_inj h1, show a1 = b1 from e])
set_option maxHeartbeats 8000000 in
set_option maxRecDepth 100000 in
theorem RHas.calls (r : Nat) (ok : Nat → Prop) (L : List C) (c : C) (w : World) (h : RefAt w r ok L) (hl : L.length ≤ 1000) : Calls Try.prog 21 #[.pointer (some ⟨r, 0, none⟩), .agg #[.string c.f0, .int .i64 c.f1]] w fun e w' => e = .returned (.bool (decide (c ∈ L))) ∧ Below w.heap.size w w' := by
  go_enter Try.func21, Try.ntmps21
  go_upto_region 1 with (fail)
  obtain ⟨W, hW⟩ : ∃ W, W = w.alloc (.cells #[.string c.f0, .int .i64 c.f1] 29 (0, 0)) := ⟨_, rfl⟩
  have HW := Aside0.mk (show Below w.heap.size w W by rw [hW]; exact below_alloc (Below.refl _ _) _)
  have kb : W.heap[w.heap.size]? = some (.cells #[.string c.f0, .int .i64 c.f1] 29 (0, 0)) := by rw [hW]; exact blk_new _ _
  rw [← hW]
  clear hW
  obtain ⟨A, cp, r0, hcp, hC⟩ := (h.below HW.out).reads
  have HC := Aside0.mk hC
  have k0 : W.cell? ⟨w.heap.size, 0, none⟩ = some (.string c.f0) := blk_cell kb 0
  have k1 : W.cell? ⟨w.heap.size, 1, none⟩ = some (.int .i64 c.f1) := blk_cell kb 1
  clear hC h kb
  go_wp2
  go_loopg [5] L.length (fun gg s5 wr => ∃ kk : Nat, kk ≤ L.length ∧ L.length - kk ≤ gg ∧ s5 = .int .i64 kk ∧ Aside0 (Drawn0 W wr) ∧ Aside0 (∀ (j : Nat) (h : j < L.length), j < kk → L[j] ≠ c))
  case atStart => exact ⟨0, Nat.zero_le _, by omega, rfl, ⟨Drawn0.refl _⟩, ⟨fun j _ hj => absurd hj (Nat.not_lt_zero _)⟩⟩
  case round =>
    obtain ⟨kk, hkk, hg, rfl, BW, AA⟩ := hrel
    have hbw := BW.out.below
    have q0 := (hbw.cell (World.block_lt_of_cell? W _ r0)).trans r0
    have q1 := (hbw.cell (World.block_lt_of_cell? W _ k0)).trans k0
    have q2 := (hbw.cell (World.block_lt_of_cell? W _ k1)).trans k1
    clear hbw
    by_cases hlt : kk < L.length
    · have hltz : (kk : Int) < (L.length : Int) := by omega
      have hz : (0 : Int) ≤ (kk : Int) := by omega
      obtain ⟨ad, e, x0, x1⟩ := at_T29 HC.out (kk : Int) hz hltz
      cases e
      have hblk := World.block_lt_of_cell? W _ x0
      rw [rd_at L kk hlt, Int.toNat_natCast] at x0 x1
      rw [Int.toNat_natCast] at hblk
      replace x0 := (BW.out.below.cell hblk).trans x0
      replace x1 := (BW.out.below.cell (p := ⟨(ad.add (kk * 2)).block, (ad.add (kk * 2)).off + 1, none⟩) hblk).trans x1
      have HM := Aside0.mk (List.getElem_mem hlt)
      obtain ⟨y, hy⟩ : ∃ y, L[kk] = y := ⟨_, rfl⟩
      rw [hy] at x0 x1 HM
      have HY := Aside0.mk hy
      clear hy
      by_cases e : y = c
      · subst e
        have t1 : (y.f0.toList == y.f0.toList) = true := beq_iff_eq.mpr rfl
        go_upto_region 4 with (fail)
        go_quiet (fail)
        go_wp2
        go_ret
        refine ⟨?_, HW.out.trans ((BW.out.below.trans ((Drawn0.below (Drawn0.mk ⟨nq, rfl⟩)).mono BW.out.below.size)).mono HW.out.size)⟩
        rw [decide_eq_true HM.out]; rfl
      · have HE := Aside0.mk e
        by_cases e1 : y.f0.toList = c.f0.toList
        · have t1 : (y.f0.toList == c.f0.toList) = true := beq_iff_eq.mpr e1
          have t2 := eq_false_of e e1
          clear e
          go_upto_region 4 with (fail)
          go_quiet (fail)
          go_wp2
          go_roundg (L.length - (kk + 1))
          case measure => omega
          case rel =>
            refine ⟨kk + 1, by omega, by omega, by go_num, ⟨BW.out.step nq⟩, ⟨fun j h hj => ?_⟩⟩
            by_cases e : j = kk
            · subst e; rw [HY.out]; exact HE.out
            · exact AA.out j h (by omega)
        · have t1 : (y.f0.toList == c.f0.toList) = false := beq_eq_false_iff_ne.mpr e1
          clear e
          go_upto_region 4 with (fail)
          go_quiet (fail)
          go_wp2
          go_roundg (L.length - (kk + 1))
          case measure => omega
          case rel =>
            refine ⟨kk + 1, by omega, by omega, by go_num, ⟨BW.out.step nq⟩, ⟨fun j h hj => ?_⟩⟩
            by_cases e : j = kk
            · subst e; rw [HY.out]; exact HE.out
            · exact AA.out j h (by omega)
    · have hltz : ¬ (kk : Int) < (L.length : Int) := by omega
      go_wp2
      go_ret
      refine ⟨?_, HW.out.trans (BW.out.below.mono HW.out.size)⟩
      have : decide (c ∈ L) = false := by
        rw [decide_eq_false_iff_not]
        intro hx
        obtain ⟨j, hj, e⟩ := List.getElem_of_mem hx
        exact AA.out j hj (by omega) e
      rw [this]; rfl
set_option maxHeartbeats 8000000 in
set_option maxRecDepth 100000 in
theorem RClean.calls (r : Nat) (ok : Nat → Prop) (L : List C) (day : Int) (w : World) (h : RefAt w r ok L) (hl : L.length ≤ 1000) (hok : ∀ k, w.heap.size ≤ k → ok k) (hokr : ¬ ok r) : Calls Try.prog 37 #[.pointer (some ⟨r, 0, none⟩), .int .i64 day] w fun e w' => e = .returned (.int .i64 ((L.length : Int) - ((L.filter fun c => !decide (c.f1 < day)).length : Int))) ∧ RefAt w' r ok (L.filter fun c => !decide (c.f1 < day)) ∧ w.grownBy w' (some r) := by
  obtain ⟨A, cp, r0, hcp, hC⟩ := h.reads
  have hrl := h.lt
  have HC := Aside0.mk hC
  have HR := Aside0.mk h
  clear hC h
  go_enter Try.func37, Try.ntmps37
  go_wp2
  go_loopg [6, 7] L.length (fun gg s6 s7 wr => ∃ (kk : Nat) (F : List C), kk ≤ L.length ∧ L.length - kk ≤ gg ∧ s7 = .int .i64 kk ∧ Aside0 (Below w.heap.size w wr) ∧ Aside0 (k29.R 29 wr w.heap.size (fun k => w.heap.size ≤ k) s6 F) ∧ Aside0 (F = (L.take kk).filter fun c => !decide (c.f1 < day)) ∧ F.length ≤ kk)
  case atStart => exact ⟨0, [], Nat.zero_le _, by omega, rfl, ⟨Below.refl _ _⟩, ⟨Kd.R_nil _ _ _ _ _⟩, ⟨rfl⟩, Nat.le_refl _⟩
  case round =>
    obtain ⟨kk, F, hkk, hg, rfl, BW, RR, FF, hfl⟩ := hrel
    have q0 := (BW.out.cell (World.block_lt_of_cell? w _ r0)).trans r0
    by_cases hlt : kk < L.length
    · have hltz : (kk : Int) < (L.length : Int) := by omega
      have hz : (0 : Int) ≤ (kk : Int) := by omega
      obtain ⟨ad, e, x0, x1⟩ := at_T29 HC.out (kk : Int) hz hltz
      cases e
      have hblk := World.block_lt_of_cell? w _ x0
      rw [rd_at L kk hlt, Int.toNat_natCast] at x0 x1
      rw [Int.toNat_natCast] at hblk
      replace x0 := (BW.out.cell hblk).trans x0
      replace x1 := (BW.out.cell (p := ⟨(ad.add (kk * 2)).block, (ad.add (kk * 2)).off + 1, none⟩) hblk).trans x1
      have ht := List.take_succ_eq_append_getElem hlt
      obtain ⟨y, hy⟩ : ∃ y, L[kk] = y := ⟨_, rfl⟩
      rw [hy] at x0 x1 ht
      have HT := Aside0.mk ht
      clear hy ht
      by_cases hd : y.f1 < day
      · have d1 : decide (day ≤ y.f1) = false := decide_eq_false (by omega)
        go_wp2
        go_roundg (L.length - (kk + 1))
        case measure => omega
        case rel =>
          exact ⟨kk + 1, F, by omega, by omega, by go_num, BW, RR, ⟨by rw [HT.out, List.filter_append, FF.out]; simp [hd]⟩, by omega⟩
      · have d1 : decide (day ≤ y.f1) = true := decide_eq_true (by omega)
        have hwz : w.heap.size ≤ wr.heap.size := BW.out.size
        go_wp2_with ((with_reducible refine gate_builtin (b := .append) (xs := #[.tmp 32, .tmp 40]) rfl ?_); at_builtin; refine Kd.R_append k29 (w0 := w) w.heap.size rfl (.tmp 32) (.tmp 40) 22 29 (.agg #[.string ⟨#[]⟩, .int .i64 0]) 24 rfl Try.underlying22 infoC rfl (by decide) (by omega) u6 F y [.string y.f0, .int .i64 y.f1] (fun k => w.heap.size ≤ k) (fun _ => False) rfl rfl (k29_mkM _ _ _ y) (fun _ hk => hk.elim) ?aF ?aO ?aB ?aS ?aL ?_; (case aF => exact (fun k hk => by omega)); (case aO => exact RR.out); (case aB => exact BW.out); (case aS => omega); (case aL => omega); intro v2 w2 ho hb hg hat; have HO2 := Aside0.mk ho; have HB2 := Aside0.mk hb; clear ho hb hg hat)
        go_roundg (L.length - (kk + 1))
        case measure => omega
        case rel =>
          exact ⟨kk + 1, F ++ [y], by omega, by omega, by go_num, HB2, HO2, ⟨by rw [HT.out, List.filter_append, FF.out]; simp [hd]⟩, by simp; omega⟩
    · have hltz : ¬ (kk : Int) < (L.length : Int) := by omega
      have ek : L.take kk = L := List.take_of_length_le (by omega)
      have hR := RR.out
      have hM := FF.out
      rw [ek] at hM
      have HM := Aside0.mk hM
      obtain ⟨A2, c2, rfl, hc2, _⟩ := Kd.R_reads hR
      have HRR := Aside0.mk hR
      obtain ⟨A0, cp0, hblk, hRo⟩ := HR.out.own
      have hkb := blk_below hblk BW.out
      have HKB := Aside0.mk hkb
      have hf := blk_frozen hkb 0
      clear hR hblk hRo RR ek hM hkb FF
      go_wp2
      go_ret
      rw [← HM.out]
      refine ⟨rfl, ⟨A2, c2, blk_set HKB.out 0 _, Kd.R_mono (Kd.R_lower (Kd.R_far HRR.out (p := ⟨r, 0, none⟩) (fun k hk => by show k ≠ r; omega) _) (Nat.zero_le _)) hok⟩, ?_⟩
      exact ⟨BW.out.os, BW.out.tape, BW.out.output, by have := BW.out.size; simpa [World.setCell] using this, fun k hk hne => (Below.heap_setCell wr ⟨r, 0, none⟩ _ k (by simpa using hne)).trans (BW.out.block k hk)⟩
set_option maxHeartbeats 8000000 in
set_option maxRecDepth 100000 in
theorem RDropAll.calls (r : Nat) (ok : Nat → Prop) (L : List C) (name : ByteArray) (w : World) (h : RefAt w r ok L) (hl : L.length ≤ 1000) (hok : ∀ k, w.heap.size ≤ k → ok k) (hokr : ¬ ok r) : Calls Try.prog 36 #[.pointer (some ⟨r, 0, none⟩), .string name] w fun e w' => e = .returned (.int .i64 ((L.length : Int) - ((L.filter fun c => !(c.f0.toList == name.toList)).length : Int))) ∧ RefAt w' r ok (L.filter fun c => !(c.f0.toList == name.toList)) ∧ w.grownBy w' (some r) := by
  obtain ⟨A, cp, r0, hcp, hC⟩ := h.reads
  have hrl := h.lt
  have HC := Aside0.mk hC
  have HR := Aside0.mk h
  clear hC h
  go_enter Try.func36, Try.ntmps36
  go_wp2
  go_loopg [6, 7] L.length (fun gg s6 s7 wr => ∃ (kk : Nat) (F : List C), kk ≤ L.length ∧ L.length - kk ≤ gg ∧ s7 = .int .i64 kk ∧ Aside0 (Below w.heap.size w wr) ∧ Aside0 (k29.R 29 wr w.heap.size (fun k => w.heap.size ≤ k) s6 F) ∧ Aside0 (F = (L.take kk).filter fun c => !(c.f0.toList == name.toList)) ∧ F.length ≤ kk)
  case atStart => exact ⟨0, [], Nat.zero_le _, by omega, rfl, ⟨Below.refl _ _⟩, ⟨Kd.R_nil _ _ _ _ _⟩, ⟨rfl⟩, Nat.le_refl _⟩
  case round =>
    obtain ⟨kk, F, hkk, hg, rfl, BW, RR, FF, hfl⟩ := hrel
    have q0 := (BW.out.cell (World.block_lt_of_cell? w _ r0)).trans r0
    by_cases hlt : kk < L.length
    · have hltz : (kk : Int) < (L.length : Int) := by omega
      have hz : (0 : Int) ≤ (kk : Int) := by omega
      obtain ⟨ad, e, x0, x1⟩ := at_T29 HC.out (kk : Int) hz hltz
      cases e
      have hblk := World.block_lt_of_cell? w _ x0
      rw [rd_at L kk hlt, Int.toNat_natCast] at x0 x1
      rw [Int.toNat_natCast] at hblk
      replace x0 := (BW.out.cell hblk).trans x0
      replace x1 := (BW.out.cell (p := ⟨(ad.add (kk * 2)).block, (ad.add (kk * 2)).off + 1, none⟩) hblk).trans x1
      have ht := List.take_succ_eq_append_getElem hlt
      obtain ⟨y, hy⟩ : ∃ y, L[kk] = y := ⟨_, rfl⟩
      rw [hy] at x0 x1 ht
      have HT := Aside0.mk ht
      clear hy ht
      by_cases hd : (y.f0.toList == name.toList) = true
      · have d2 : y.f0.toList = name.toList := beq_iff_eq.mp hd
        go_wp2
        go_roundg (L.length - (kk + 1))
        case measure => omega
        case rel =>
          exact ⟨kk + 1, F, by omega, by omega, by go_num, BW, RR, ⟨by rw [HT.out, List.filter_append, FF.out]; simp [hd]⟩, by omega⟩
      · replace hd : (y.f0.toList == name.toList) = false := by simpa using hd
        have hwz : w.heap.size ≤ wr.heap.size := BW.out.size
        go_wp2_with ((with_reducible refine gate_builtin (b := .append) (xs := #[.tmp 32, .tmp 40]) rfl ?_); at_builtin; refine Kd.R_append k29 (w0 := w) w.heap.size rfl (.tmp 32) (.tmp 40) 22 29 (.agg #[.string ⟨#[]⟩, .int .i64 0]) 24 rfl Try.underlying22 infoC rfl (by decide) (by omega) u6 F y [.string y.f0, .int .i64 y.f1] (fun k => w.heap.size ≤ k) (fun _ => False) rfl rfl (k29_mkM _ _ _ y) (fun _ hk => hk.elim) ?aF ?aO ?aB ?aS ?aL ?_; (case aF => exact (fun k hk => by omega)); (case aO => exact RR.out); (case aB => exact BW.out); (case aS => omega); (case aL => omega); intro v2 w2 ho hb hg hat; have HO2 := Aside0.mk ho; have HB2 := Aside0.mk hb; clear ho hb hg hat)
        go_roundg (L.length - (kk + 1))
        case measure => omega
        case rel =>
          exact ⟨kk + 1, F ++ [y], by omega, by omega, by go_num, HB2, HO2, ⟨by rw [HT.out, List.filter_append, FF.out]; simp [hd]⟩, by simp; omega⟩
    · have hltz : ¬ (kk : Int) < (L.length : Int) := by omega
      have ek : L.take kk = L := List.take_of_length_le (by omega)
      have hR := RR.out
      have hM := FF.out
      rw [ek] at hM
      have HM := Aside0.mk hM
      obtain ⟨A2, c2, rfl, hc2, _⟩ := Kd.R_reads hR
      have HRR := Aside0.mk hR
      obtain ⟨A0, cp0, hblk, hRo⟩ := HR.out.own
      have hkb := blk_below hblk BW.out
      have HKB := Aside0.mk hkb
      have hf := blk_frozen hkb 0
      clear hR hblk hRo RR ek hM hkb FF
      go_wp2
      go_ret
      rw [← HM.out]
      refine ⟨rfl, ⟨A2, c2, blk_set HKB.out 0 _, Kd.R_mono (Kd.R_lower (Kd.R_far HRR.out (p := ⟨r, 0, none⟩) (fun k hk => by show k ≠ r; omega) _) (Nat.zero_le _)) hok⟩, ?_⟩
      exact ⟨BW.out.os, BW.out.tape, BW.out.output, by have := BW.out.size; simpa [World.setCell] using this, fun k hk hne => (Below.heap_setCell wr ⟨r, 0, none⟩ _ k (by simpa using hne)).trans (BW.out.block k hk)⟩
set_option maxHeartbeats 8000000 in
set_option maxRecDepth 100000 in
theorem RDrop.calls (r : Nat) (ok : Nat → Prop) (L : List C) (x : C) (w : World) (h : RefAt w r ok L) (hl : L.length ≤ 1000) (hok : ∀ k, w.heap.size ≤ k → ok k) (hokr : ¬ ok r) : Calls Try.prog 35 #[.pointer (some ⟨r, 0, none⟩), .agg #[.string x.f0, .int .i64 x.f1]] w fun e w' => e = .returned (.bool (decide (x ∈ L))) ∧ RefAt w' r ok (L.filter fun c => !decide (c = x)) ∧ w.grownBy w' (some r) := by
  go_enter Try.func35, Try.ntmps35
  go_upto_region 1 with (fail)
  obtain ⟨W0, hW⟩ : ∃ W, W = w.alloc (.cells #[.string x.f0, .int .i64 x.f1] 29 (0, 0)) := ⟨_, rfl⟩
  have HW0 := Aside0.mk (show Below w.heap.size w W0 by rw [hW]; exact below_alloc (Below.refl _ _) _)
  have kb : W0.heap[w.heap.size]? = some (.cells #[.string x.f0, .int .i64 x.f1] 29 (0, 0)) := by rw [hW]; exact blk_new _ _
  rw [← hW]
  clear hW
  have k0 : W0.cell? ⟨w.heap.size, 0, none⟩ = some (.string x.f0) := blk_cell kb 0
  have k1 : W0.cell? ⟨w.heap.size, 1, none⟩ = some (.int .i64 x.f1) := blk_cell kb 1
  have hH := RHas.calls r ok L x W0 (h.below HW0.out) hl
  have HR0 := Aside0.mk (h.below HW0.out)
  have HKB := Aside0.mk kb
  obtain ⟨was, hwas⟩ : ∃ b, b = decide (x ∈ L) := ⟨_, rfl⟩
  rw [← hwas] at hH
  have HWAS := Aside0.mk hwas
  clear hwas
  clear h kb
  go_upto_region 2 with (go_at_call 21; refine hH.mono ?_; rintro e W ⟨rfl, bW⟩)
  have HW := Aside0.mk (below_go HW0.out HW0.out.size bW)
  have HR := Aside0.mk (HR0.out.below bW)
  have HKW := Aside0.mk (blk_below HKB.out bW)
  obtain ⟨A, cp, r0, hcp, hC⟩ := HR.out.reads
  have hrl := HR.out.lt
  have HC := Aside0.mk hC
  have hokW : ∀ k, W.heap.size ≤ k → ok k := fun k hk => hok k (Nat.le_trans HW.out.size hk)
  clear hC k0 k1 hH bW HR0 HKB hok
  go_wp2
  go_loopg [6, 7] L.length (fun gg s6 s7 wr => ∃ (kk : Nat) (F : List C), kk ≤ L.length ∧ L.length - kk ≤ gg ∧ s7 = .int .i64 kk ∧ Aside0 (Below W.heap.size W wr) ∧ Aside0 (k29.R 29 wr W.heap.size (fun k => W.heap.size ≤ k) s6 F) ∧ Aside0 (F = (L.take kk).filter fun c => !decide (c = x)) ∧ F.length ≤ kk)
  case atStart => exact ⟨0, [], Nat.zero_le _, by omega, rfl, ⟨Below.refl _ _⟩, ⟨Kd.R_nil _ _ _ _ _⟩, ⟨rfl⟩, Nat.le_refl _⟩
  case round =>
    obtain ⟨kk, F, hkk, hg, rfl, BW, RR, FF, hfl⟩ := hrel
    have hkw := blk_below HKW.out BW.out
    have q1 : wr.cell? ⟨w.heap.size, 0, none⟩ = some (.string x.f0) := blk_cell hkw 0
    have q2 : wr.cell? ⟨w.heap.size, 1, none⟩ = some (.int .i64 x.f1) := blk_cell hkw 1
    clear hkw
    have q0 := (BW.out.cell (World.block_lt_of_cell? W _ r0)).trans r0
    by_cases hlt : kk < L.length
    · have hltz : (kk : Int) < (L.length : Int) := by omega
      have hz : (0 : Int) ≤ (kk : Int) := by omega
      obtain ⟨ad, e, x0, x1⟩ := at_T29 HC.out (kk : Int) hz hltz
      cases e
      have hblk := World.block_lt_of_cell? W _ x0
      rw [rd_at L kk hlt, Int.toNat_natCast] at x0 x1
      rw [Int.toNat_natCast] at hblk
      replace x0 := (BW.out.cell hblk).trans x0
      replace x1 := (BW.out.cell (p := ⟨(ad.add (kk * 2)).block, (ad.add (kk * 2)).off + 1, none⟩) hblk).trans x1
      have ht := List.take_succ_eq_append_getElem hlt
      obtain ⟨y, hy⟩ : ∃ y, L[kk] = y := ⟨_, rfl⟩
      rw [hy] at x0 x1 ht
      have HT := Aside0.mk ht
      clear hy ht
      by_cases hd : y = x
      · subst hd
        have t1 : (y.f0.toList == y.f0.toList) = true := beq_iff_eq.mpr rfl
        go_upto_region 6 with (fail)
        go_quiet (fail)
        go_wp2
        go_roundg (L.length - (kk + 1))
        case measure => omega
        case rel =>
          exact ⟨kk + 1, F, by omega, by omega, by go_num, ⟨BW.out.trans ((Drawn0.below (Drawn0.mk ⟨nq, rfl⟩)).mono BW.out.size)⟩, ⟨Kd.R_below RR.out (Drawn0.below (Drawn0.mk ⟨nq, rfl⟩))⟩, ⟨by rw [HT.out, List.filter_append, FF.out]; simp⟩, by omega⟩
      · have HD := Aside0.mk hd
        have hcases : ∃ b1 b2 : Bool, (y.f0.toList == x.f0.toList) = b1 ∧ (y.f1 == x.f1) = b2 ∧ (b1 && b2) = false := ⟨_, _, rfl, rfl, by
          by_cases e1 : y.f0.toList = x.f0.toList
          · rw [eq_false_of hd e1, Bool.and_false]
          · rw [beq_eq_false_iff_ne.mpr e1, Bool.false_and]⟩
        obtain ⟨b1, b2, t1, t2, t3⟩ := hcases
        cases b1 <;> cases b2 <;> first | (cases t3; done) | skip
        all_goals
          clear hd t3
          go_upto_region 6 with (fail)
          go_quiet (fail)
          obtain ⟨V, hV⟩ : ∃ V, V = wr.drewN nq := ⟨_, rfl⟩
          have hd : Below wr.heap.size wr V := by rw [hV]; exact Drawn0.below (Drawn0.mk ⟨nq, rfl⟩)
          rw [← hV]
          clear hV
          replace x0 := (hd.cell (World.block_lt_of_cell? wr _ x0)).trans x0
          replace x1 := (hd.cell (World.block_lt_of_cell? wr _ x1)).trans x1
          replace q0 := (hd.cell (World.block_lt_of_cell? wr _ q0)).trans q0
          have HBV := Aside0.mk (BW.out.trans (hd.mono BW.out.size))
          have HRV := Aside0.mk (Kd.R_below RR.out hd)
          have hwz : W.heap.size ≤ V.heap.size := HBV.out.size
          clear q1 q2 hd
          go_wp2_with ((with_reducible refine gate_builtin (b := .append) (xs := #[.tmp 29, .tmp 37]) rfl ?_); at_builtin; refine Kd.R_append k29 (w0 := W) W.heap.size rfl (.tmp 29) (.tmp 37) 22 29 (.agg #[.string ⟨#[]⟩, .int .i64 0]) 24 rfl Try.underlying22 infoC rfl (by decide) (by omega) u6 F y [.string y.f0, .int .i64 y.f1] (fun k => W.heap.size ≤ k) (fun _ => False) rfl rfl (k29_mkM _ _ _ y) (fun _ hk => hk.elim) ?aF ?aO ?aB ?aS ?aL ?_; (case aF => exact (fun k hk => by omega)); (case aO => exact HRV.out); (case aB => exact HBV.out); (case aS => omega); (case aL => omega); intro v2 w2 ho hb hg hat; have HO2 := Aside0.mk ho; have HB2 := Aside0.mk hb; clear ho hb hg hat)
          go_roundg (L.length - (kk + 1))
          case measure => omega
          case rel =>
            exact ⟨kk + 1, F ++ [y], by omega, by omega, by go_num, HB2, HO2, ⟨by rw [HT.out, List.filter_append, FF.out]; have := HD.out; simp [this]⟩, by simp; omega⟩
    · have hltz : ¬ (kk : Int) < (L.length : Int) := by omega
      have ek : L.take kk = L := List.take_of_length_le (by omega)
      have hR := RR.out
      have hM := FF.out
      rw [ek] at hM
      have HM := Aside0.mk hM
      obtain ⟨A2, c2, rfl, hc2, _⟩ := Kd.R_reads hR
      have HRR := Aside0.mk hR
      obtain ⟨A0, cp0, hblk, hRo⟩ := HR.out.own
      have hkb := blk_below hblk BW.out
      have HKB := Aside0.mk hkb
      have hf := blk_frozen hkb 0
      clear hR hblk hRo RR ek hM hkb FF
      go_wp2
      go_ret
      rw [← HM.out]
      refine ⟨by rw [← HWAS.out]; rfl, ⟨A2, c2, blk_set HKB.out 0 _, Kd.R_mono (Kd.R_lower (Kd.R_far HRR.out (p := ⟨r, 0, none⟩) (fun k hk => by show k ≠ r; omega) _) (Nat.zero_le _)) hokW⟩, ?_⟩
      exact (below_grown HW.out (some r)).andThen (row' := some r) ⟨BW.out.os, BW.out.tape, BW.out.output, by have := BW.out.size; simpa [World.setCell] using this, fun k hk hne => (Below.heap_setCell wr ⟨r, 0, none⟩ _ k (by simpa using hne)).trans (BW.out.block k hk)⟩ (fun j hj => .inr hj)
end Go.Proofs.Ythneeibphelofaa.QCondPlays
