/- The law's do: one call to both stores. No conditions beyond those that each theorem names. -/
import Derived.Test.YthneeibphelofaaQCondPlaysCondCopy
namespace Go.Proofs.Ythneeibphelofaa.QCondPlays
open Go.RowKit Go.Proofs.Ythneeibphelofaa.PCondPlays Go.Proofs.YthneeibphelofaaW.PrintWords Go.Proofs.YthneeibphelofaaW.PrintLast Go.Proofs.YthneeibphelofaaW.PrintMore
set_option linter.unusedVariables false
set_option linter.unusedSimpArgs false
/-- What a call leaves. -/
def doL (k : Int) (c : C) (L : List C) : List C :=
  if k = 0 ∨ k = 1 ∨ k = 2 ∨ k = 3 ∨ k = 4 then addR L c else if k = 5 then L.filter (fun d => !decide (d = c)) else if k = 6 then L.filter (fun d => !(d.f0.toList == c.f0.toList)) else if k = 7 then L.filter (fun d => !decide (d.f1 < c.f1)) else L
theorem doL_tame {k : Int} {c : C} {L : List C} (h : Tame L) : Tame (doL k c L) := by
  unfold doL
  split
  · exact h.add c
  split
  · exact h.filter _
  split
  · exact h.filter _
  split
  · exact h.filter _
  · exact h
/-- Both stores hold the same. -/
structure Both (w : World) (s b r : Nat) (ok : Nat → Prop) (L : List C) : Prop where
  held : Held w s b L
  ref : RefAt w r ok L
  tame : Tame L
  sr : s ≠ r
  br : b ≠ r
  okr : ¬ ok r
  okb : ¬ ok b
  oks : ¬ ok s
theorem Both.below {w w' : World} {s b r : Nat} {ok : Nat → Prop} {L : List C} (h : Both w s b r ok L) (hb : Below w.heap.size w w') : Both w' s b r ok L := ⟨h.held.below hb, h.ref.below hb, h.tame, h.sr, h.br, h.okr, h.okb, h.oks⟩
theorem neok {ok : Nat → Prop} {b : Nat} (h : ¬ ok b) : ∀ k, ok k → some k ≠ some b := fun k hk e => by injection e with e; rw [e] at hk; exact h hk
/-- A pair of calls: the store's, then the reference's. -/
theorem Both.turn {w w1 w2 : World} {s b r : Nat} {ok : Nat → Prop} {L M : List C} (h : Both w s b r ok L) (ht : Tame M) (h1 : Held w1 s b M) (g1 : w.grownBy w1 (some b)) (h2 : RefAt w2 r ok M) (g2 : w1.grownBy w2 (some r)) : Both w2 s b r ok M :=
  ⟨h1.kept g2 (by simpa using h.sr) (by simpa using h.br), h2, ht, h.sr, h.br, h.okr, h.okb, h.oks⟩
theorem Both.mid {w w1 : World} {s b r : Nat} {ok : Nat → Prop} {L : List C} (h : Both w s b r ok L) (g1 : w.grownBy w1 (some b)) : RefAt w1 r ok L := h.ref.grown g1 (by simpa using h.br.symm) (neok h.okb)
theorem two_below {B b r : Nat} {w w1 w2 : World} (g1 : w.grownBy w1 (some b)) (g2 : w1.grownBy w2 (some r)) (hb : B ≤ b) (hr : B ≤ r) (hw : B ≤ w.heap.size) : Below B w w2 :=
  (grown_below g1 hb hw).trans (grown_below g2 hr (Nat.le_trans hw g1.size))
set_option maxHeartbeats 8000000 in
set_option maxRecDepth 100000 in
theorem do.calls (s b r : Nat) (ok : Nat → Prop) (L : List C) (k : Int) (c : C) (hc : wfC c) (w : World) (h : Both w s b r ok L) (hok : ∀ j, w.heap.size ≤ j → ok j) : Calls Try.prog 20 #[.pointer (some ⟨s, 0, none⟩), .pointer (some ⟨r, 0, none⟩), .agg #[.int .i64 k, .string c.f0, .int .i64 c.f1]] w fun e w' => e = .returned (.bool true) ∧ Both w' s b r ok (doL k c L) ∧ ∀ B, B ≤ b → B ≤ r → B ≤ w.heap.size → Below B w w' := by
  obtain ⟨M, hM⟩ : ∃ M, doL k c L = M := ⟨_, rfl⟩
  rw [hM]
  have HM := Aside0.mk hM
  clear hM
  have hl : L.length ≤ 1000 := by have := h.tame.len; omega
  have hbw := h.held.ltb
  have hrw := h.ref.lt
  have HB := Aside0.mk h
  clear h
  go_enter Try.func20, Try.ntmps20
  go_upto_region 1 with (fail)
  obtain ⟨W, hW⟩ : ∃ W, W = w.alloc (.cells #[.int .i64 k, .string c.f0, .int .i64 c.f1] 42 (0, 0)) := ⟨_, rfl⟩
  have HW := Aside0.mk (show Below w.heap.size w W by rw [hW]; exact below_alloc (Below.refl _ _) _)
  have kb : W.heap[w.heap.size]? = some (.cells #[.int .i64 k, .string c.f0, .int .i64 c.f1] 42 (0, 0)) := by rw [hW]; exact blk_new _ _
  rw [← hW]
  clear hW
  have HS : Aside0 (∀ W' : World, W'.heap[w.heap.size]? = W.heap[w.heap.size]? → W'.cell? ⟨w.heap.size, 0, none⟩ = some (.int .i64 k) ∧ W'.cell? ⟨w.heap.size, 1, none⟩ = some (.string c.f0) ∧ W'.cell? ⟨w.heap.size, 2, none⟩ = some (.int .i64 c.f1)) := ⟨fun W' h => ⟨blk_cell (h.trans kb) 0, blk_cell (h.trans kb) 1, blk_cell (h.trans kb) 2⟩⟩
  have HBW := Aside0.mk (HB.out.below HW.out)
  have hsz : w.heap.size < W.heap.size := blk_lt kb
  have hokW : ∀ j, W.heap.size ≤ j → ok j := fun j hj => hok j (by omega)
  have hsrt := HBW.out.held.sorted
  obtain ⟨x0, x1, x2⟩ := HS.out W rfl
  have hv0 : W.heap[w.heap.size]? = W.heap[w.heap.size]? := rfl
  clear kb
  have fin : ∀ (W' : World) (M' : List C), Both W' s b r ok M' → M' = M → (∀ B, B ≤ b → B ≤ r → B ≤ W.heap.size → Below B W W') → Both W' s b r ok M ∧ ∀ B, B ≤ b → B ≤ r → B ≤ w.heap.size → Below B w W' := fun W' M' h1 h2 h3 => ⟨h2 ▸ h1, fun B p q t => (HW.out.mono t).trans (h3 B p q (by omega))⟩
  have FIN := Aside0.mk fin
  clear fin
  by_cases add : k = 0 ∨ k = 1 ∨ k = 2 ∨ k = 3 ∨ k = 4
  · have hA := fun (V : World) (hV : Below W.heap.size W V) => Add.calls s b L c hc V (HBW.out.held.below hV) hl
    have hR := fun (V : World) (g : W.grownBy V (some b)) => RAdd.calls r ok L c V (HBW.out.mid g) hl hsrt HBW.out.tame (fun j hj => hokW j (Nat.le_trans g.size hj)) HBW.out.okr
    have HMM := Aside0.mk (show addR L c = M by rw [← HM.out, doL, if_pos add])
    generalize addE L c = ee at hA hR
    have hv := Below.refl W.heap.size W
    rcases add with rfl | rfl | rfl | rfl | rfl
    all_goals
      go_upto_region 7 with (fail)
      go_region_held3 (fun W' => W'.cell? ⟨w.heap.size, 1, none⟩ = some (.string c.f0) ∧ W'.cell? ⟨w.heap.size, 2, none⟩ = some (.int .i64 c.f1)) (first | exact (HS.out _ rfl).2 | exact (HS.out _ hv1).2 | exact (HS.out _ hv2).2) (first | (go_at_call 10; first | (refine (hA _ hv).mono ?_; rintro e1 w1 ⟨rfl, h1, g1⟩; have hv1 := g1.block w.heap.size hsz (by simp; omega)) | (refine (hA _ (below_drew1 hv)).mono ?_; rintro e1 w1 ⟨rfl, h1, g1'⟩; have g1 := (below_grown (below_drew1 hv) (some b)).andThen (row' := some b) g1' (fun j hj => .inr hj); clear g1'; have hv1 := g1.block w.heap.size hsz (by simp; omega))) | (go_at_call 34; refine (hR _ g1).mono ?_; rintro e2 w2 ⟨rfl, h2, g2⟩; have hv2 : w2.heap[w.heap.size]? = W.heap[w.heap.size]? := (g2.block w.heap.size (Nat.lt_of_lt_of_le hsz g1.size) (by simp; omega)).trans hv1))
      go_wp2
      go_ret
      refine ⟨rfl, FIN.out _ _ (HBW.out.turn (HBW.out.tame.add c) h1 g1 h2 g2) HMM.out (fun B p q t => two_below g1 g2 p q t)⟩
  by_cases k5 : k = 5
  · obtain rfl : k = 5 := k5
    have hA := fun (V : World) (hV : Below W.heap.size W V) => Drop.calls s b L c V (HBW.out.held.below hV) hl
    have hR := fun (V : World) (g : W.grownBy V (some b)) => RDrop.calls r ok L c V (HBW.out.mid g) hl (fun j hj => hokW j (Nat.le_trans g.size hj)) HBW.out.okr
    have HMM := Aside0.mk (show L.filter (fun d => !decide (d = c)) = M by rw [← HM.out]; simp only [doL]; rfl)
    generalize decide (c ∈ L) = ee at hA hR
    have hv := Below.refl W.heap.size W
    go_upto_region 9 with (fail)
    go_region_held3 (fun W' => W'.cell? ⟨w.heap.size, 1, none⟩ = some (.string c.f0) ∧ W'.cell? ⟨w.heap.size, 2, none⟩ = some (.int .i64 c.f1)) (first | exact (HS.out _ rfl).2 | exact (HS.out _ hv1).2 | exact (HS.out _ hv2).2) (first | (go_at_call 16; first | (refine (hA _ hv).mono ?_; rintro e1 w1 ⟨rfl, h1, g1⟩; have hv1 := g1.block w.heap.size hsz (by simp; omega)) | (refine (hA _ (below_drew1 hv)).mono ?_; rintro e1 w1 ⟨rfl, h1, g1'⟩; have g1 := (below_grown (below_drew1 hv) (some b)).andThen (row' := some b) g1' (fun j hj => .inr hj); clear g1'; have hv1 := g1.block w.heap.size hsz (by simp; omega))) | (go_at_call 35; refine (hR _ g1).mono ?_; rintro e2 w2 ⟨rfl, h2, g2⟩; have hv2 : w2.heap[w.heap.size]? = W.heap[w.heap.size]? := (g2.block w.heap.size (Nat.lt_of_lt_of_le hsz g1.size) (by simp; omega)).trans hv1))
    go_wp2
    go_ret
    refine ⟨rfl, FIN.out _ _ (HBW.out.turn (HBW.out.tame.filter _) h1 g1 h2 g2) HMM.out (fun B p q t => two_below g1 g2 p q t)⟩
  by_cases k6 : k = 6
  · obtain rfl : k = 6 := k6
    have hA := fun (V : World) (hV : Below W.heap.size W V) => DropAll.calls s b L c.f0 V (HBW.out.held.below hV) hl
    have hR := fun (V : World) (g : W.grownBy V (some b)) => RDropAll.calls r ok L c.f0 V (HBW.out.mid g) hl (fun j hj => hokW j (Nat.le_trans g.size hj)) HBW.out.okr
    have HMM := Aside0.mk (show L.filter (fun d => !(d.f0.toList == c.f0.toList)) = M by rw [← HM.out]; simp only [doL]; rfl)
    have hee : ((L.length : Int) - ((L.filter fun d => !(d.f0.toList == c.f0.toList)).length : Int)) = ((L.filter fun d => d.f0.toList == c.f0.toList).length : Int) := by have := filter_split (fun d => d.f0.toList == c.f0.toList) L; omega
    rw [hee] at hR
    generalize ((L.filter fun d => d.f0.toList == c.f0.toList).length : Int) = ee at hA hR
    clear hee
    have hv := Below.refl W.heap.size W
    go_upto_region 11 with (fail)
    go_region_held3 (fun W' => W'.cell? ⟨w.heap.size, 1, none⟩ = some (.string c.f0)) (first | exact (HS.out _ rfl).2.1 | exact (HS.out _ hv1).2.1 | exact (HS.out _ hv2).2.1) (first | (go_at_call 19; first | (refine (hA _ hv).mono ?_; rintro e1 w1 ⟨rfl, h1, g1⟩; have hv1 := g1.block w.heap.size hsz (by simp; omega)) | (refine (hA _ (below_drew1 hv)).mono ?_; rintro e1 w1 ⟨rfl, h1, g1'⟩; have g1 := (below_grown (below_drew1 hv) (some b)).andThen (row' := some b) g1' (fun j hj => .inr hj); clear g1'; have hv1 := g1.block w.heap.size hsz (by simp; omega))) | (go_at_call 36; refine (hR _ g1).mono ?_; rintro e2 w2 ⟨rfl, h2, g2⟩; have hv2 : w2.heap[w.heap.size]? = W.heap[w.heap.size]? := (g2.block w.heap.size (Nat.lt_of_lt_of_le hsz g1.size) (by simp; omega)).trans hv1))
    go_wp2
    go_ret
    refine ⟨rfl, FIN.out _ _ (HBW.out.turn (HBW.out.tame.filter _) h1 g1 h2 g2) HMM.out (fun B p q t => two_below g1 g2 p q t)⟩
  by_cases k7 : k = 7
  · obtain rfl : k = 7 := k7
    have hA := fun (V : World) (hV : Below W.heap.size W V) => Clean.calls s b L c.f1 V (HBW.out.held.below hV) hl
    have hR := fun (V : World) (g : W.grownBy V (some b)) => RClean.calls r ok L c.f1 V (HBW.out.mid g) hl (fun j hj => hokW j (Nat.le_trans g.size hj)) HBW.out.okr
    have HMM := Aside0.mk (show L.filter (fun d => !decide (d.f1 < c.f1)) = M by rw [← HM.out]; simp only [doL]; rfl)
    have hee : ((L.length : Int) - ((L.filter fun d => !decide (d.f1 < c.f1)).length : Int)) = ((L.filter fun d => decide (d.f1 < c.f1)).length : Int) := by have := filter_split (fun d => decide (d.f1 < c.f1)) L; omega
    rw [hee] at hR
    generalize ((L.filter fun d => decide (d.f1 < c.f1)).length : Int) = ee at hA hR
    clear hee
    have hv := Below.refl W.heap.size W
    go_upto_region 13 with (fail)
    go_region_held3 (fun W' => W'.cell? ⟨w.heap.size, 2, none⟩ = some (.int .i64 c.f1)) (first | exact (HS.out _ rfl).2.2 | exact (HS.out _ hv1).2.2 | exact (HS.out _ hv2).2.2) (first | (go_at_call 13; first | (refine (hA _ hv).mono ?_; rintro e1 w1 ⟨rfl, h1, g1⟩; have hv1 := g1.block w.heap.size hsz (by simp; omega)) | (refine (hA _ (below_drew1 hv)).mono ?_; rintro e1 w1 ⟨rfl, h1, g1'⟩; have g1 := (below_grown (below_drew1 hv) (some b)).andThen (row' := some b) g1' (fun j hj => .inr hj); clear g1'; have hv1 := g1.block w.heap.size hsz (by simp; omega))) | (go_at_call 37; refine (hR _ g1).mono ?_; rintro e2 w2 ⟨rfl, h2, g2⟩; have hv2 : w2.heap[w.heap.size]? = W.heap[w.heap.size]? := (g2.block w.heap.size (Nat.lt_of_lt_of_le hsz g1.size) (by simp; omega)).trans hv1))
    go_wp2
    go_ret
    refine ⟨rfl, FIN.out _ _ (HBW.out.turn (HBW.out.tame.filter _) h1 g1 h2 g2) HMM.out (fun B p q t => two_below g1 g2 p q t)⟩
  have HMM := Aside0.mk (show L = M by rw [← HM.out]; simp only [doL, if_neg add, if_neg k5, if_neg k6, if_neg k7])
  have n0 : ¬ k = 0 := fun e => add (by simp [e])
  have n1 : ¬ k = 1 := fun e => add (by simp [e])
  have n2 : ¬ k = 2 := fun e => add (by simp [e])
  have n3 : ¬ k = 3 := fun e => add (by simp [e])
  have n4 : ¬ k = 4 := fun e => add (by simp [e])
  clear add
  go_upto_region 14 with (simp only [beq_eq_false_iff_ne, ne_eq, n0, n1, n2, n3, n4, k5, k6, k7, not_false_eq_true])
  go_wp2
  go_ret
  refine ⟨rfl, FIN.out _ _ (HBW.out.below (by first | exact Below.refl _ _ | exact (Drawn0.below ⟨_, rfl⟩))) HMM.out (fun B p q t => by first | exact Below.refl _ _ | (trace_state; exact (Drawn0.below ⟨_, rfl⟩)))⟩
end Go.Proofs.Ythneeibphelofaa.QCondPlays
