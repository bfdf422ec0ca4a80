/- The law's do: one call to both pools. No conditions beyond those that each theorem names. -/
import Derived.Test.YtgepalpcaphbeaaQPoolPlaysPoolRefSize
import Derived.Test.YtgepalpcaphbeaaQPoolPlaysPoolCopy
namespace Go.Proofs.Ytgepalpcaphbeaa.QPoolPlays
open Go.RowKit Go.Proofs.Ytgepalpcaphbeaa.PPoolPlays Go.Proofs.YtgepalpcaphbeaaW.PrintWords Go.Proofs.YtgepalpcaphbeaaW.PrintLast Go.Proofs.YtgepalpcaphbeaaW.PrintMore Go.Proofs.Ytgepalpcaphbeaa.MMaps
set_option linter.unusedVariables false
set_option linter.unusedSimpArgs false
set_option maxRecDepth 100000
/-- Both pools hold the same. -/
structure Both (w : World) (p bt bh r : Nat) (ok : Nat → Prop) (R : List Rs) (H : List Hd) : Prop where
  pool : PoolAt w p bt bh R H
  ref : RefAt w r ok R H
  pr : p ≠ r
  tr : bt ≠ r
  hr : bh ≠ r
  okr : ¬ ok r
  okp : ¬ ok p
  okt : ¬ ok bt
  okh : ¬ ok bh
theorem Both.below {w w' : World} {p bt bh r : Nat} {ok : Nat → Prop} {R : List Rs} {H : List Hd} (h : Both w p bt bh r ok R H) (hb : Below w.heap.size w w') : Both w' p bt bh r ok R H := ⟨h.pool.below hb, h.ref.below hb, h.pr, h.tr, h.hr, h.okr, h.okp, h.okt, h.okh⟩
theorem Both.turn {w w1 w2 : World} {p bt bh r : Nat} {ok : Nat → Prop} {R R' : List Rs} {H H' : List Hd} (h : Both w p bt bh r ok R H) (h1 : PoolAt w1 p bt bh R' H') (h2 : RefAt w2 r ok R' H') (g : w1.grownBy w2 (some r)) : Both w2 p bt bh r ok R' H' :=
  ⟨h1.kept g (by simpa using h.pr) (by simpa using h.tr) (by simpa using h.hr), h2, h.pr, h.tr, h.hr, h.okr, h.okp, h.okt, h.okh⟩
theorem Both.to {w : World} {p bt bh r : Nat} {ok : Nat → Prop} {R R' : List Rs} {H H' : List Hd} (h : Both w p bt bh r ok R H) (e1 : R = R') (e2 : H = H') : Both w p bt bh r ok R' H' := e1 ▸ e2 ▸ h
theorem neok {ok : Nat → Prop} {b : Nat} (h : ¬ ok b) : ∀ k, ok k → some k ≠ some b := fun k hk e => by injection e with e; rw [e] at hk; exact h hk
/-- What lies neither in the pools' blocks nor in the reference's lists stays. -/
structure Away (ok : Nat → Prop) (bt bh r : Nat) (w w' : World) : Prop where
  size : w.heap.size ≤ w'.heap.size
  keep : ∀ x, x < w.heap.size → ¬ ok x → x ≠ bt → x ≠ bh → x ≠ r → w'.heap[x]? = w.heap[x]?
theorem Away.trans {ok : Nat → Prop} {bt bh r : Nat} {w w1 w2 : World} (h : Away ok bt bh r w w1) (k : Away ok bt bh r w1 w2) : Away ok bt bh r w w2 :=
  ⟨Nat.le_trans h.size k.size, fun x hx a b c d => (k.keep x (Nat.lt_of_lt_of_le hx h.size) a b c d).trans (h.keep x hx a b c d)⟩
theorem Away.below {ok : Nat → Prop} {bt bh r : Nat} {w w1 : World} (h : Below w.heap.size w w1) : Away ok bt bh r w w1 := ⟨h.size, fun x hx _ _ _ _ => h.block x hx⟩
theorem Away.th {ok : Nat → Prop} {bt bh r : Nat} {w w1 : World} (h : w.grownBy w1 (some bt)) : Away ok bt bh r w w1 := ⟨h.size, fun x hx _ b _ _ => h.block x hx (by simpa using b)⟩
theorem Away.hh {ok : Nat → Prop} {bt bh r : Nat} {w w1 : World} (h : w.grownBy w1 (some bh)) : Away ok bt bh r w w1 := ⟨h.size, fun x hx _ _ b _ => h.block x hx (by simpa using b)⟩
theorem Away.rr {ok : Nat → Prop} {bt bh r : Nat} {w w1 : World} (h : w.grownBy w1 (some r)) : Away ok bt bh r w w1 := ⟨h.size, fun x hx _ _ _ b => h.block x hx (by simpa using b)⟩
theorem Away.sz {ok : Nat → Prop} {bt bh r : Nat} {w w1 : World} {Q : Nat → Prop} (h : Below w.heap.size w w1 ∨ ∃ g, ok g ∧ Q g ∧ w.grownBy w1 (some g)) : Away ok bt bh r w w1 := by
  rcases h with h | ⟨g, hg, _, h⟩
  · exact .below h
  · exact ⟨h.size, fun x hx a _ _ _ => h.block x hx (by intro e; injection e with e; exact a (e ▸ hg))⟩
theorem resize_after {w4 w5 : World} {p bt bh B x : Nat} {ok : Nat → Prop} {R : List Rs} {H : List Hd} {cs : Array Value} {z : Nat × Nat} (h : PoolAt w4 p bt bh R H) (hx : w4.heap[x]? = some (.cells cs 31 z)) (okp : ¬ ok p) (okt : ¬ ok bt) (okh : ¬ ok bh) (hok : ∀ g, ok g → B ≤ g) (hB : B ≤ w4.heap.size)
    (ho : Below w4.heap.size w4 w5 ∨ ∃ g, ok g ∧ (∃ cur, w4.heap[g]? = some (.cells cur 53 (0, 0))) ∧ w4.grownBy w5 (some g)) : PoolAt w5 p bt bh R H ∧ w5.heap[x]? = w4.heap[x]? ∧ Below B w4 w5 := by
  rcases ho with hb | ⟨g, hg, ⟨cur, hc⟩, hgr⟩
  · exact ⟨h.below hb, hb.block x (blk_lt hx), hb.mono hB⟩
  · refine ⟨h.kept hgr (by intro e; injection e with e; exact okp (e ▸ hg)) (by intro e; injection e with e; exact okt (e ▸ hg)) (by intro e; injection e with e; exact okh (e ▸ hg)), hgr.block x (blk_lt hx) ?_, grown_below hgr (hok g hg) hB⟩
    intro e
    injection e with e
    rw [e, hc] at hx
    injection hx with hx
    injection hx with _ hx
    cases hx
def doR (a : Turn) (R : List Rs) : List Rs := if a.kind = 7 then resizeR R a.name a.n else R
def doH (a : Turn) (R : List Rs) (H : List Hd) : List Hd := if a.kind = 0 ∨ a.kind = 1 ∨ a.kind = 2 ∨ a.kind = 3 ∨ a.kind = 4 then takeOf R H a.owner (ndL a.l) else if a.kind = 5 ∨ a.kind = 6 then giveOf H a.owner else H
theorem May.of (p bt bh : Nat) (R : List Rs) (H : List Hd) (o : Int) (A : Option Addr) (c : Nat) (L : List Nr) (w : World) (h : PoolAt w p bt bh R H) (hC : Kd.C k61 w A (L.map toN).length (L.map toN)) (hc : L.length ≤ c) (hw : ∀ n ∈ L, wfN n) (hl : L.length < 4398046511104) :
    Calls Try.prog 19 #[.pointer (some ⟨p, 0, none⟩), .int .i64 o, .slice A L.length c] w fun e w' => e = .returned (.int .i64 (mayOf R H o (ndL L))) ∧ Below w.heap.size w w' := by
  have := May.calls p bt bh R H o A c (L.map toN) w h hC (by simpa using hc) (fun n hn => by obtain ⟨x, hx, rfl⟩ := List.mem_map.mp hn; exact (hw x hx).1) (by simp; omega)
  rw [List.length_map] at this
  exact this
set_option maxHeartbeats 32000000 in
theorem do.calls (p bt bh r : Nat) (ok : Nat → Prop) (R : List Rs) (H : List Hd) (a : Turn) (B : Option Addr) (cb : Nat) (hwa : wfT a) (w : World) (h : Both w p bt bh r ok R H) (wo : World) (hwo : Below wo.heap.size wo w) (bp : wo.heap.size ≤ p) (bbt : wo.heap.size ≤ bt) (bbh : wo.heap.size ≤ bh) (bbr : wo.heap.size ≤ r) (bok : ∀ g, ok g → wo.heap.size ≤ g) (hC : Kd.C k74 wo B a.l.length a.l) (hcb : a.l.length ≤ cb) (hall : a.l.length ≤ 1000) (hlen : H.length + R.length ≤ 10000) (hok : ∀ j, w.heap.size ≤ j → ok j) : Calls Try.prog 22 #[.pointer (some ⟨p, 0, none⟩), .pointer (some ⟨r, 0, none⟩), .agg #[.int .i64 a.kind, .int .i64 a.owner, .slice B a.l.length cb, .string a.name, .int .i64 a.n]] w fun e w' => e = .returned (.bool true) ∧ Both w' p bt bh r ok (doR a R) (doH a R H) ∧ Below wo.heap.size wo w' ∧ Away ok bt bh r w w' := by
  obtain ⟨RR, hRR⟩ : ∃ RR, doR a R = RR := ⟨_, rfl⟩
  obtain ⟨HH, hHH⟩ : ∃ HH, doH a R H = HH := ⟨_, rfl⟩
  rw [hRR, hHH]
  have HRR := Aside0.mk hRR
  have HHH := Aside0.mk hHH
  have HBO := Aside0.mk h
  have HC := Aside0.mk hC
  have hlp := h.pool.ltp
  have hlt := h.pool.things.lt
  have hlh := h.pool.held.lt
  have hlr := h.ref.lt
  have hpr := h.pr
  have htr := h.tr
  have hhr := h.hr
  clear hRR hHH h hC
  go_enter Try.func22, Try.ntmps22
  go_upto_region 1 with (fail)
  obtain ⟨W, hW⟩ : ∃ W, W = w.alloc (.cells #[.int .i64 a.kind, .int .i64 a.owner, .slice B a.l.length cb, .string a.name, .int .i64 a.n] 31 (0, 0)) := ⟨_, rfl⟩
  have HW := Aside0.mk (show Below w.heap.size w W by rw [hW]; exact below_alloc (Below.refl _ _) _)
  have kb : W.heap[w.heap.size]? = some (.cells #[.int .i64 a.kind, .int .i64 a.owner, .slice B a.l.length cb, .string a.name, .int .i64 a.n] 31 (0, 0)) := by rw [hW]; exact blk_new _ _
  rw [← hW]
  clear hW
  have HKB := Aside0.mk kb
  have HS : Aside0 (∀ W' : World, W'.heap[w.heap.size]? = W.heap[w.heap.size]? → W'.cell? ⟨w.heap.size, 1, none⟩ = some (.int .i64 a.owner) ∧ W'.cell? ⟨w.heap.size, 2, none⟩ = some (.slice B a.l.length cb) ∧ W'.cell? ⟨w.heap.size, 3, none⟩ = some (.string a.name) ∧ W'.cell? ⟨w.heap.size, 4, none⟩ = some (.int .i64 a.n)) := ⟨fun W' h => ⟨blk_cell (h.trans kb) 1, blk_cell (h.trans kb) 2, blk_cell (h.trans kb) 3, blk_cell (h.trans kb) 4⟩⟩
  have x0 : W.cell? ⟨w.heap.size, 0, none⟩ = some (.int .i64 a.kind) := blk_cell kb 0
  obtain ⟨x1, x2, x3, x4⟩ := HS.out W rfl
  have HBW := Aside0.mk (HBO.out.below HW.out)
  have hsz : w.heap.size < W.heap.size := blk_lt kb
  have hokW : ∀ j, W.heap.size ≤ j → ok j := fun j hj => hok j (by omega)
  have hgd := HBO.out.pool.good
  have hN := fun (V : World) (hV : Below wo.heap.size wo V) => needs.calls B cb a.l V (Kd.C_below HC.out hV) hcb (by omega)
  have hq := below_go hwo hwo.size HW.out
  have HQ := Aside0.mk hq
  have hq0 := Below.refl W.heap.size W
  have AW := Aside0.mk (Away.below (ok := ok) (bt := bt) (bh := bh) (r := r) HW.out)
  have kq : W.heap[w.heap.size]? = W.heap[w.heap.size]? := rfl
  clear kb
  by_cases kA : a.kind = 0 ∨ a.kind = 1 ∨ a.kind = 2 ∨ a.kind = 3 ∨ a.kind = 4
  · have HMH := Aside0.mk (show takeOf R H a.owner (ndL a.l) = HH by rw [← HHH.out, doH, if_pos kA])
    have HMR := Aside0.mk (show R = RR by rw [← HRR.out, doR, if_neg (by omega)])
    have hT := fun (V : World) (A : Option Addr) (c : Nat) (hP : PoolAt V p bt bh R H) hC hc => Take.of p bt bh R H a.owner A c a.l V hP hC hc hwa.2.2.1.2 hwa.2.1 (by omega) (by omega)
    have hRT := fun (V : World) (hR : RefAt V r ok R H) hCC (hk : ∀ j, V.heap.size ≤ j → ok j) => RTake.calls r ok R H a.owner B cb a.l V hR hgd hCC hcb (by omega) (fun hz => by have h1 := takeOf_len' hz; have h2 : (ndL a.l).length = a.l.length := List.length_map ..; omega) hk HBO.out.okr
    generalize mayOf R H a.owner (ndL a.l) = ee at hT hRT
    have hRG := fun (V X : World) (hV : Below W.heap.size W V) (g : V.grownBy X (some bh)) => (HBW.out.ref.below hV).grown g (by simpa using HBW.out.hr.symm) (neok HBW.out.okh)
    rcases kA with k0 | k0 | k0 | k0 | k0
    all_goals
      rw [k0] at x0
      clear k0
      go_upto_region 7 with (fail)
      go_region_held3 (fun V => V.cell? ⟨w.heap.size, 1, none⟩ = some (.int .i64 a.owner) ∧ V.cell? ⟨w.heap.size, 2, none⟩ = some (.slice B a.l.length cb)) (first | exact ⟨x1, x2⟩ | exact ⟨(HS.out _ kq1).1, (HS.out _ kq1).2.1⟩ | exact ⟨(HS.out _ kq2).1, (HS.out _ kq2).2.1⟩ | exact ⟨(HS.out _ kq3).1, (HS.out _ kq3).2.1⟩) (first
        | (go_at_call 13; first
          | (refine (hN _ hq).mono ?_; rintro e3 w3 ⟨v3, rfl, hR3, hB3⟩; have q3 := below_go hq0 hq0.size hB3; have p3 := below_go hq hq.size hB3; have kq1 := q3.block w.heap.size hsz; obtain ⟨A3, k3, e4, hk3, hC3⟩ := Kd.R_reads hR3; rw [List.length_map] at e4 hk3; subst e4; clear hR3)
          | (refine (hN _ (below_drew1 hq)).mono ?_; rintro e3 w3 ⟨v3, rfl, hR3, hB3⟩; have q3 := below_go (below_drew1 hq0) (below_drew1 hq0).size hB3; have p3 := below_go (below_drew1 hq) (below_drew1 hq).size hB3; have kq1 := q3.block w.heap.size hsz; obtain ⟨A3, k3, e4, hk3, hC3⟩ := Kd.R_reads hR3; rw [List.length_map] at e4 hk3; subst e4; clear hR3))
        | (go_at_call 12; refine (hT _ A3 k3 (HBW.out.pool.below q3) hC3 hk3).mono ?_; rintro e4 w4 ⟨rfl, hP4, hg4⟩; have kq2 : w4.heap[w.heap.size]? = W.heap[w.heap.size]? := (hg4.block w.heap.size (Nat.lt_of_lt_of_le hsz q3.size) (by simp; omega)).trans kq1; have p4 : Below wo.heap.size wo w4 := p3.trans (grown_below hg4 bbh p3.size))
        | (go_at_call 17; refine (hRT _ (hRG _ _ q3 hg4) (Kd.C_below HC.out p4) (fun j hj => hokW j (Nat.le_trans (Nat.le_trans q3.size hg4.size) hj))).mono ?_; rintro e5 w5 ⟨rfl, hR5, hg5⟩; have kq3 : w5.heap[w.heap.size]? = W.heap[w.heap.size]? := (hg5.block w.heap.size (Nat.lt_of_lt_of_le hsz (Nat.le_trans q3.size hg4.size)) (by simp; omega)).trans kq2; have p5 : Below wo.heap.size wo w5 := p4.trans (grown_below hg5 bbr p4.size)))
      go_wp2
      go_ret
      refine ⟨rfl, ((HBW.out.turn hP4 hR5 hg5).to HMR.out HMH.out), p5, ((AW.out.trans (.below q3)).trans (.hh hg4)).trans (.rr hg5)⟩
  have n0 : ¬ a.kind = 0 := fun e => kA (by simp [e])
  have n1 : ¬ a.kind = 1 := fun e => kA (by simp [e])
  have n2 : ¬ a.kind = 2 := fun e => kA (by simp [e])
  have n3 : ¬ a.kind = 3 := fun e => kA (by simp [e])
  have n4 : ¬ a.kind = 4 := fun e => kA (by simp [e])
  by_cases kB : a.kind = 5 ∨ a.kind = 6
  · have HMH := Aside0.mk (show giveOf H a.owner = HH by rw [← HHH.out, doH, if_neg kA, if_pos kB])
    have HMR := Aside0.mk (show R = RR by rw [← HRR.out, doR, if_neg (by omega)])
    have hT := fun (V : World) (hP : PoolAt V p bt bh R H) => Give.calls p bt bh R H a.owner V hP
    have hRT := fun (V : World) (hR : RefAt V r ok R H) (hk : ∀ j, V.heap.size ≤ j → ok j) => RGive.calls r ok R H a.owner V hR (by omega) hk HBO.out.okr
    generalize ((H.length : Int) - ((giveOf H a.owner).length : Int)) = ee at hT hRT
    have hRG := fun (V X : World) (hV : Below W.heap.size W V) (g : V.grownBy X (some bh)) => (HBW.out.ref.below hV).grown g (by simpa using HBW.out.hr.symm) (neok HBW.out.okh)
    clear n0 n1 n2 n3 n4 kA
    rcases kB with k0 | k0
    all_goals
      rw [k0] at x0
      clear k0
      go_upto_region 10 with (fail)
      go_region_held3 (fun V => V.cell? ⟨w.heap.size, 1, none⟩ = some (.int .i64 a.owner)) (first | exact x1 | exact (HS.out _ kq2).1 | exact (HS.out _ kq3).1) (first
        | (go_at_call 11; first
          | (refine (hT _ (HBW.out.pool.below hq0)).mono ?_; rintro e4 w4 ⟨rfl, hP4, hg4⟩; have q3 := hq0; have p3 := hq; have kq2 : w4.heap[w.heap.size]? = W.heap[w.heap.size]? := (hg4.block w.heap.size (Nat.lt_of_lt_of_le hsz q3.size) (by simp; omega)); have p4 : Below wo.heap.size wo w4 := p3.trans (grown_below hg4 bbh p3.size))
          | (refine (hT _ (HBW.out.pool.below (below_drew1 hq0))).mono ?_; rintro e4 w4 ⟨rfl, hP4, hg4⟩; have q3 := below_drew1 hq0; have p3 := below_drew1 hq; have kq2 : w4.heap[w.heap.size]? = W.heap[w.heap.size]? := (hg4.block w.heap.size (Nat.lt_of_lt_of_le hsz q3.size) (by simp; omega)); have p4 : Below wo.heap.size wo w4 := p3.trans (grown_below hg4 bbh p3.size)))
        | (go_at_call 36; refine (hRT _ (hRG _ _ q3 hg4) (fun j hj => hokW j (Nat.le_trans (Nat.le_trans q3.size hg4.size) hj))).mono ?_; rintro e5 w5 ⟨rfl, hR5, hg5⟩; have kq3 : w5.heap[w.heap.size]? = W.heap[w.heap.size]? := (hg5.block w.heap.size (Nat.lt_of_lt_of_le hsz (Nat.le_trans q3.size hg4.size)) (by simp; omega)).trans kq2; have p5 : Below wo.heap.size wo w5 := p4.trans (grown_below hg5 bbr p4.size)))
      go_wp2
      go_ret
      refine ⟨rfl, ((HBW.out.turn hP4 hR5 hg5).to HMR.out HMH.out), p5, ((AW.out.trans (.below q3)).trans (.hh hg4)).trans (.rr hg5)⟩
  have n5 : ¬ a.kind = 5 := fun e => kB (by simp [e])
  have n6 : ¬ a.kind = 6 := fun e => kB (by simp [e])
  by_cases kC : a.kind = 7
  · have HMH := Aside0.mk (show H = HH by rw [← HHH.out, doH, if_neg kA, if_neg kB])
    have HMR := Aside0.mk (show resizeR R a.name a.n = RR by rw [← HRR.out, doR, if_pos kC])
    have hT := fun (V : World) (hP : PoolAt V p bt bh R H) => Resize.calls p bt bh R H a.name a.n hwa.2.2.2.1 V hP
    have hRT := fun (V : World) (hR : RefAt V r ok R H) => RResize.calls r ok R H a.name a.n V hR hgd HBO.out.okr
    generalize resizeE R a.name a.n = ee at hT hRT
    have hRG := fun (V X : World) (hV : Below W.heap.size W V) (g : V.grownBy X (some bt)) => (HBW.out.ref.below hV).grown g (by simpa using HBW.out.tr.symm) (neok HBW.out.okt)
    have hAft := fun (V X : World) (hP : PoolAt V p bt bh (resizeR R a.name a.n) H) (hk : V.heap[w.heap.size]? = W.heap[w.heap.size]?) (hs : wo.heap.size ≤ V.heap.size) hor => resize_after (B := wo.heap.size) (w5 := X) hP (hk.trans HKB.out) HBO.out.okp HBO.out.okt HBO.out.okh bok hs hor
    rw [kC] at x0
    clear n0 n1 n2 n3 n4 n5 n6 kA kB kC
    go_upto_region 12 with (fail)
    go_region_held3 (fun V => V.cell? ⟨w.heap.size, 3, none⟩ = some (.string a.name) ∧ V.cell? ⟨w.heap.size, 4, none⟩ = some (.int .i64 a.n)) (first | exact ⟨x3, x4⟩ | exact (HS.out _ kq2).2.2 | exact (HS.out _ kq3).2.2) (first
      | (go_at_call 25; first
        | (refine (hT _ (HBW.out.pool.below hq0)).mono ?_; rintro e4 w4 ⟨rfl, hP4, hg4⟩; have q3 := hq0; have p3 := hq; have kq2 : w4.heap[w.heap.size]? = W.heap[w.heap.size]? := (hg4.block w.heap.size (Nat.lt_of_lt_of_le hsz q3.size) (by simp; omega)); have p4 : Below wo.heap.size wo w4 := p3.trans (grown_below hg4 bbt p3.size))
        | (refine (hT _ (HBW.out.pool.below (below_drew1 hq0))).mono ?_; rintro e4 w4 ⟨rfl, hP4, hg4⟩; have q3 := below_drew1 hq0; have p3 := below_drew1 hq; have kq2 : w4.heap[w.heap.size]? = W.heap[w.heap.size]? := (hg4.block w.heap.size (Nat.lt_of_lt_of_le hsz q3.size) (by simp; omega)); have p4 : Below wo.heap.size wo w4 := p3.trans (grown_below hg4 bbt p3.size)))
      | (go_at_call 37; refine (hRT _ (hRG _ _ q3 hg4)).mono ?_; rintro e5 w5 ⟨rfl, hR5, hor5⟩; obtain ⟨hP5, hk5, hb5⟩ := hAft _ _ hP4 kq2 p4.size hor5; have kq3 : w5.heap[w.heap.size]? = W.heap[w.heap.size]? := hk5.trans kq2; have p5 : Below wo.heap.size wo w5 := p4.trans hb5))
    go_wp2
    go_ret
    exact ⟨rfl, Both.to ⟨hP5, hR5, HBO.out.pr, HBO.out.tr, HBO.out.hr, HBO.out.okr, HBO.out.okp, HBO.out.okt, HBO.out.okh⟩ HMR.out HMH.out, p5, ((AW.out.trans (.below q3)).trans (.th hg4)).trans (.sz hor5)⟩
  have HMH := Aside0.mk (show H = HH by rw [← HHH.out, doH, if_neg kA, if_neg kB])
  have HMR := Aside0.mk (show R = RR by rw [← HRR.out, doR, if_neg kC])
  have hT := fun (V : World) (A : Option Addr) (c : Nat) (hP : PoolAt V p bt bh R H) hC hc => May.of p bt bh R H a.owner A c a.l V hP hC hc hwa.2.2.1.2 (by omega)
  have hRT := fun (V : World) (hR : RefAt V r ok R H) hCC => RMay.calls r ok R H a.owner B cb a.l V hR hgd hCC hcb (by omega)
  rw [show a.l.map toN = ndL a.l from rfl] at hRT
  generalize mayOf R H a.owner (ndL a.l) = ee at hT hRT
  clear kA kB
  go_upto_region 13 with (simp only [beq_eq_false_iff_ne, ne_eq, n0, n1, n2, n3, n4, n5, n6, kC, not_false_eq_true])
  go_region_held3 (fun V => V.cell? ⟨w.heap.size, 1, none⟩ = some (.int .i64 a.owner) ∧ V.cell? ⟨w.heap.size, 2, none⟩ = some (.slice B a.l.length cb)) (first | exact ⟨x1, x2⟩ | exact ⟨(HS.out _ kq1).1, (HS.out _ kq1).2.1⟩ | exact ⟨(HS.out _ kq2).1, (HS.out _ kq2).2.1⟩ | exact ⟨(HS.out _ kq3).1, (HS.out _ kq3).2.1⟩) (first
    | (go_at_call 13; first
      | (refine (hN _ hq).mono ?_; rintro e3 w3 ⟨v3, rfl, hR3, hB3⟩; have q3 := below_go hq0 hq0.size hB3; have p3 := below_go hq hq.size hB3; have kq1 := q3.block w.heap.size hsz; obtain ⟨A3, k3, e4, hk3, hC3⟩ := Kd.R_reads hR3; rw [List.length_map] at e4 hk3; subst e4; clear hR3)
      | (refine (hN _ (below_drew1 hq)).mono ?_; rintro e3 w3 ⟨v3, rfl, hR3, hB3⟩; have q3 := below_go (below_drew1 hq0) (below_drew1 hq0).size hB3; have p3 := below_go (below_drew1 hq) (below_drew1 hq).size hB3; have kq1 := q3.block w.heap.size hsz; obtain ⟨A3, k3, e4, hk3, hC3⟩ := Kd.R_reads hR3; rw [List.length_map] at e4 hk3; subst e4; clear hR3))
    | (go_at_call 19; refine (hT _ A3 k3 (HBW.out.pool.below q3) hC3 hk3).mono ?_; rintro e4 w4 ⟨rfl, hb4⟩; have q4 := below_go q3 q3.size hb4; have p4 := below_go p3 p3.size hb4; have kq2 := q4.block w.heap.size hsz)
    | (go_at_call 32; refine (hRT _ (HBW.out.ref.below q4) (Kd.C_below HC.out p4)).mono ?_; rintro e5 w5 ⟨rfl, hb5⟩; have q5 := below_go q4 q4.size hb5; have p5 := below_go p4 p4.size hb5; have kq3 := q5.block w.heap.size hsz))
  go_wp2
  go_ret
  refine ⟨rfl, ((HBW.out.below q5).to HMR.out HMH.out), p5, AW.out.trans (.below q5)⟩
end Go.Proofs.Ytgepalpcaphbeaa.QPoolPlays
