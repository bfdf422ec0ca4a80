/- The law CondPlays, walked: for all calls and every condition it comes to true. Each theorem names its own conditions. -/
import Derived.Test.YthneeibphelofaaQCondPlaysCondActs
namespace Go.Proofs.Ythneeibphelofaa.QCondPlays
open Go.RowKit Go.Proofs.Ythneeibphelofaa.PCondPlays Go.Proofs.YthneeibphelofaaW.PrintWords Go.Proofs.YthneeibphelofaaW.PrintLast Go.Proofs.YthneeibphelofaaW.PrintMore
set_option linter.unusedVariables false
set_option linter.unusedSimpArgs false
abbrev zz : C := ⟨⟨#[122, 122]⟩, 1⟩
theorem wfzz : wfC zz := ⟨by decide, by decide⟩
/-- What is said of each round. -/
structure Turns (W wr : World) (r : Nat) (v5 : Value) (s b : Nat) (L : List C) : Prop where
  five : v5 = .pointer (some ⟨s, 0, none⟩)
  both : Both wr s b r (okF r s b) L
  below : Below W.heap.size W wr
  rs : W.heap.size ≤ r
  ss : W.heap.size ≤ s
  bs : W.heap.size ≤ b
/-- The list that a store gave out, as its holder may change it. -/
def RowAt (V : World) (B : Nat) (A : Option Addr) (cap n : Nat) : Prop := (A = none ∧ n = 0) ∨ ∃ g cur, A = some ⟨g, 0, none⟩ ∧ B ≤ g ∧ V.heap[g]? = some (.cells cur 29 (0, 0)) ∧ cur.size = cap * 2 ∧ n ≤ cap
theorem RowAt.of {w : World} {base : Nat} {A : Option Addr} {cap n : Nat} {L : List C} {ok : Nat → Prop} (h : k29.R 29 w base ok (.slice A n cap) L) : RowAt w base A cap n := by
  rcases row_open h with ⟨e, rfl⟩ | ⟨g, cp, cur, e, hb, _, hblk, hsz, hle, _, _⟩
  · cases e; exact .inl ⟨rfl, rfl⟩
  · cases e; exact .inr ⟨g, cur, rfl, hb, hblk, hsz, hle⟩
theorem RowAt.below {w w' : World} {B : Nat} {A : Option Addr} {cap n : Nat} (h : RowAt w B A cap n) (hb : Below w.heap.size w w') : RowAt w' B A cap n := by
  rcases h with h | ⟨g, cur, e, h1, h2, h3⟩
  · exact .inl h
  · exact .inr ⟨g, cur, e, h1, blk_below h2 hb, h3⟩
set_option maxHeartbeats 8000000 in
set_option maxRecDepth 100000 in
theorem plays_walk (A0 : Option Addr) (c0 : Nat) (l : List Turn) (c : C) (hcw : wfC c) (w : World) (hl : Kd.C kA w A0 l.length l) (hlc : l.length ≤ c0) (hwf : ∀ a ∈ l, wfC a.f1) (hll : l.length ≤ 1000000000000000) :
    Calls Try.prog 6 #[.slice A0 l.length c0, .agg #[.string c.f0, .int .i64 c.f1]] w fun e w' => e = .returned (.bool true) ∧ Below w.heap.size w w' := by
  have hn := fun (W : World) => New.calls W
  have hrn := fun (W : World) => RNew.calls W
  have hk := fun (W : World) => known.calls W
  have HL := Aside0.mk hl
  clear hl
  go_enter Try.func6, Try.ntmps6
  go_upto_region 1 with (fail)
  obtain ⟨W, hW⟩ : ∃ W, W = w.alloc (.cells #[.string c.f0, .int .i64 c.f1] 29 (0, 0)) := ⟨_, rfl⟩
  have HW := Aside0.mk (show Below w.heap.size w W by rw [hW]; exact below_alloc (Below.refl _ _) _)
  have kb : W.heap[w.heap.size]? = some (.cells #[.string c.f0, .int .i64 c.f1] 29 (0, 0)) := by rw [hW]; exact blk_new _ _
  rw [← hW]
  clear hW
  have HS : Aside0 (∀ W' : World, Below W.heap.size W W' → W'.cell? ⟨w.heap.size, 0, none⟩ = some (.string c.f0) ∧ W'.cell? ⟨w.heap.size, 1, none⟩ = some (.int .i64 c.f1)) := ⟨fun W' h => ⟨blk_cell (blk_below kb h) 0, blk_cell (blk_below kb h) 1⟩⟩
  clear kb
  go_upto_region 5 with (first | (go_at_call 8; refine (hn _).mono ?_; rintro e w1 ⟨s, b, rfl, hs, hb, hh, hB⟩) | (go_at_call 17; refine (hrn _).mono ?_; rintro e w2 ⟨rfl, hr, hB2⟩))
  have HB0 := Aside0.mk (hB.trans (hB2.mono hB.size))
  have HH0 := Aside0.mk (show Both w2 s b w1.heap.size (okF w1.heap.size s b) [] from ⟨hh.below hB2, hr _, Tame.nil, by have := hh.lts; omega, by have := hh.ltb; omega, fun h => h.1 rfl, fun h => h.2.1 rfl, fun h => h.2.2 rfl⟩)
  have hrs : W.heap.size ≤ w1.heap.size := hB.size
  generalize w1.heap.size = r at *
  clear hB hB2 hh hr hn hrn
  go_wp2
  go_loopg [5, 7, 8, 9, 10] l.length (fun gg v5 v7 v8 v9 v10 wr => ∃ (i s b : Nat) (L : List C), i ≤ l.length ∧ l.length - i ≤ gg ∧ v7 = .int .i64 i ∧ Turns W wr r v5 s b L)
  case atStart => exact ⟨0, s, b, [], Nat.zero_le _, by omega, rfl, rfl, HH0.out, HB0.out, hrs, hs, hb⟩
  case round =>
    clear HH0 HB0 hs hb
    obtain ⟨i, s, b, L, hi, hg, rfl, HT⟩ := hrel
    obtain rfl := HT.five
    by_cases go : i < l.length ∧ i < 300
    · obtain ⟨hlt, h300⟩ := go
      have b2 : decide ((i : Int) < (l.length : Int)) = true := decide_eq_true (by omega)
      have b3 : decide ((i : Int) < 300) = true := decide_eq_true (by omega)
      obtain ⟨ad, e, x0, x1, x2⟩ := at_A HL.out i hlt
      cases e
      have hb1 := World.block_lt_of_cell? w _ x0
      have hwi := hwf l[i] (List.getElem_mem _)
      generalize l[i] = a at *
      have hww := HW.out.trans (HT.below.mono HW.out.size)
      replace x0 := (hww.cell hb1).trans x0
      replace x1 := (hww.cell (p := ⟨(ad.add (i * 3)).block, (ad.add (i * 3)).off + 1, none⟩) hb1).trans x1
      replace x2 := (hww.cell (p := ⟨(ad.add (i * 3)).block, (ad.add (i * 3)).off + 2, none⟩) hb1).trans x2
      clear hww
      have hlen0 : L.length ≤ 1000 := by have := HT.both.tame.len; omega
      by_cases k8 : a.f0 = 8
      · rw [k8] at x0
        have hCopy := Copy.calls s b L wr HT.both.held hlen0
        go_upto_region 17 with (first | (go_at_call 18; refine hCopy.mono ?_; rintro e1 w2 ⟨s', b', rfl, hs', hb', h2, B2⟩) | (go_at_call 10; refine (Add.calls s b L zz wfzz w2 (HT.both.held.below B2) hlen0).mono ?_; rintro e2 w3 ⟨rfl, h3, g3⟩) | (go_at_call 19; refine (DropAll.calls s b (addR L zz) ⟨#[97]⟩ w3 h3 (by have := (HT.both.tame.add zz).len; omega)).mono ?_; rintro e3 w4 ⟨rfl, h4, g4⟩))
        have HZ : Turns W w4 r (.pointer (some ⟨s', 0, none⟩)) s' b' L := by
          obtain ⟨q1, q2⟩ := copied HT.both hs' hb' h2 B2 g3 g4
          exact ⟨rfl, q1, HT.below.trans (q2 _ HT.bs HT.below.size), HT.rs, Nat.le_trans HT.below.size hs', Nat.le_trans HT.below.size hb'⟩
        clear hCopy h2 B2 g3 g4 h3 h4 HT hs' hb' hlen0 x0 x1 x2
        have hlen : L.length ≤ 1000 := by have := HZ.both.tame.len; omega
        have hL := List.calls s' b' L w4 HZ.both.held hlen
        go_upto_region 18 with (go_at_call 12; refine hL.mono ?_; rintro e5 w5 ⟨v, rfl, R5, B5⟩)
        have HY : Turns W w5 r (.pointer (some ⟨s', 0, none⟩)) s' b' L := ⟨rfl, HZ.both.below B5, below_go HZ.below HZ.below.size B5, HZ.rs, HZ.ss, HZ.bs⟩
        have HZB := Aside0.mk B5
        obtain ⟨A1, k1, rfl, hk1, hC1⟩ := Kd.R_reads R5
        have HROW := Aside0.mk (RowAt.of R5)
        obtain ⟨A2, k2, r0, hk2, hC2⟩ := HY.both.ref.reads
        obtain ⟨y0, y1⟩ := HS.out w5 HY.below
        have HSV : Aside0 (∀ V, Below w5.heap.size w5 V → V.cell? ⟨r, 0, none⟩ = some (.slice A2 L.length k2) ∧ V.cell? ⟨w.heap.size, 0, none⟩ = some (.string c.f0) ∧ V.cell? ⟨w.heap.size, 1, none⟩ = some (.int .i64 c.f1)) := ⟨fun V hV => ⟨(hV.cell (World.block_lt_of_cell? w5 _ r0)).trans r0, (hV.cell (World.block_lt_of_cell? w5 _ y0)).trans y0, (hV.cell (World.block_lt_of_cell? w5 _ y1)).trans y1⟩⟩
        have hSame := fun (V : World) (hV : Below w5.heap.size w5 V) => Same.calls L hlen A1 A2 k1 k2 V (Kd.C_below hC1 hV) hk1 (Kd.C_below hC2 hV) hk2
        have hLen := fun (V : World) (hV : Below w5.heap.size w5 V) => Len.calls s' b' L V (HY.both.held.below hV)
        have hHas := fun (V : World) (hV : Below w5.heap.size w5 V) => Has.calls s' b' L c hcw V (HY.both.held.below hV)
        have hRHas := fun (V : World) (hV : Below w5.heap.size w5 V) => RHas.calls r _ L c V (HY.both.ref.below hV) hlen
        have hAny := fun (V : World) (hV : Below w5.heap.size w5 V) => Any.calls s' b' L c.f0 V (HY.both.held.below hV) hlen
        have hRAny := fun (V : World) (hV : Below w5.heap.size w5 V) => RAny.calls r _ L c.f0 V (HY.both.ref.below hV) hlen
        generalize decide (c ∈ L) = ee at hHas hRHas
        generalize (L.any fun d => d.f0.toList == c.f0.toList) = ff at hAny hRAny
        have hq := Below.refl w5.heap.size w5
        clear hL R5 B5 hC1 hC2
        go_region_held3 (fun V => V.cell? ⟨r, 0, none⟩ = some (.slice A2 L.length k2) ∧ V.cell? ⟨w.heap.size, 0, none⟩ = some (.string c.f0) ∧ V.cell? ⟨w.heap.size, 1, none⟩ = some (.int .i64 c.f1)) (first | exact HSV.out _ hq | exact HSV.out _ (below_drew1 hq) | exact HSV.out _ q1 | exact HSV.out _ q2 | exact HSV.out _ q3 | exact HSV.out _ q4 | exact HSV.out _ q5 | exact HSV.out _ q6) (first | (go_at_call 11; first | (refine (hSame _ hq).mono ?_; rintro e6 u1 ⟨rfl, d1⟩; have q1 := below_go hq hq.size d1.below; clear d1) | (refine (hSame _ (below_drew1 hq)).mono ?_; rintro e6 u1 ⟨rfl, d1⟩; have q1 := below_go (below_drew1 hq) (below_drew1 hq).size d1.below; clear d1)) | (go_at_call 15; refine (hLen _ q1).mono ?_; rintro e7 u2 ⟨rfl, d2⟩; have q2 := below_go q1 q1.size d2.below; clear d2) | (go_at_call 14; refine (hHas _ q2).mono ?_; rintro e8 u3 ⟨rfl, d3⟩; have q3 := below_go q2 q2.size d3; clear d3) | (go_at_call 21; refine (hRHas _ q3).mono ?_; rintro e9 u4 ⟨rfl, d4⟩; have q4 := below_go q3 q3.size d4; clear d4) | (go_at_call 22; refine (hAny _ q4).mono ?_; rintro e10 u5 ⟨rfl, d5⟩; have q5 := below_go q4 q4.size d5; clear d5) | (go_at_call 23; refine (hRAny _ q5).mono ?_; rintro e11 u6 ⟨rfl, d6⟩; have q6 := below_go q5 q5.size d6.below; clear d6))
        have HROW6 := Aside0.mk (HROW.out.below q6)
        have HB6 := Aside0.mk (HZB.out.trans (q6.mono HZB.out.size))
        clear HROW hSame hLen hHas hRHas hAny hRAny HSV hq q1 q2 q3 q4 q5 q6 r0 y0 y1
        go_wp2
        go_loopg [10] L.length (fun gg v10 wr2 => ∃ k : Nat, k ≤ L.length ∧ L.length - k ≤ gg ∧ v10 = .int .i64 k ∧ Aside0 (Below w4.heap.size w4 wr2) ∧ Aside0 (RowAt wr2 w4.heap.size A1 k1 L.length))
        case atStart => exact ⟨0, Nat.zero_le _, by omega, rfl, HB6, HROW6⟩
        case round =>
          clear HZB HROW6 HB6 HL
          obtain ⟨k, hk0, hg2, rfl, HB, HR⟩ := hrel
          by_cases hkl : k < L.length
          · have c2 : decide ((k : Int) < (L.length : Int)) = true := decide_eq_true (by omega)
            have c3 : (0 : Int) ≤ (k : Int) := by omega
            have c4 : (k : Int) < (L.length : Int) := by omega
            rcases HR.out with ⟨_, h0⟩ | ⟨g, cur, rfl, hgb, hblk, hsz, hle⟩
            · omega
            have hbk := Aside0.mk hblk
            obtain ⟨u, hu⟩ : ∃ u, cur[k * 2]? = some u := ⟨_, Array.getElem?_eq_getElem (by omega)⟩
            have hx0 : wr.cell? ⟨g, k * 2, none⟩ = some u := (blk_cell hblk _).trans hu
            have hf := blk_frozen hblk (k * 2)
            clear hblk
            go_wp2
            go_roundg (L.length - (k + 1))
            case measure => omega
            case rel =>
              refine ⟨k + 1, by omega, Nat.le_refl _, by go_num, ⟨⟨HB.out.os, HB.out.tape, HB.out.output, by have := HB.out.size; simpa [World.setCell] using this, fun j hj => ?_⟩⟩, ⟨.inr ⟨g, _, rfl, hgb, blk_set hbk.out _ _, by simpa using hsz, hle⟩⟩⟩
              refine (Below.heap_setCell wr ⟨g, k * 2, none⟩ _ j (by show j ≠ g; omega)).trans (HB.out.block j hj)
          · have c2 : decide ((k : Int) < (L.length : Int)) = false := decide_eq_false (by omega)
            go_wp2
            go_roundg (l.length - (i + 1))
            case measure => omega
            case rel => exact ⟨i + 1, _, _, _, by omega, Nat.le_refl _, by go_num, rfl, HZ.both.below HB.out, HZ.below.trans (HB.out.mono HZ.below.size), HZ.rs, HZ.ss, HZ.bs⟩
      · have n8 : (a.f0 == 8) = false := beq_eq_false_iff_ne.mpr k8
        have hDo := do.calls s b r (okF r s b) L a.f0 a.f1 hwi wr HT.both (fun j hj => by have h1 := HT.both.held.ltb; have h2 := HT.both.held.lts; have h3 := HT.both.ref.lt; exact ⟨by omega, by omega, by omega⟩)
        go_upto_region 17 with (go_at_call 20; refine hDo.mono ?_; rintro e1 w4 ⟨rfl, h4, B4⟩)
        have HZ : Turns W w4 r (.pointer (some ⟨s, 0, none⟩)) s b (doL a.f0 a.f1 L) := ⟨rfl, h4, HT.below.trans (B4 _ HT.bs HT.rs HT.below.size), HT.rs, HT.ss, HT.bs⟩
        clear hDo h4 B4 HT hlen0 x0 x1 x2
        generalize doL a.f0 a.f1 L = M at HZ
        have hlen : M.length ≤ 1000 := by have := HZ.both.tame.len; omega
        have hL := List.calls s b M w4 HZ.both.held hlen
        go_upto_region 18 with (go_at_call 12; refine hL.mono ?_; rintro e5 w5 ⟨v, rfl, R5, B5⟩)
        have HY : Turns W w5 r (.pointer (some ⟨s, 0, none⟩)) s b M := ⟨rfl, HZ.both.below B5, below_go HZ.below HZ.below.size B5, HZ.rs, HZ.ss, HZ.bs⟩
        have HZB := Aside0.mk B5
        obtain ⟨A1, k1, rfl, hk1, hC1⟩ := Kd.R_reads R5
        have HROW := Aside0.mk (RowAt.of R5)
        obtain ⟨A2, k2, r0, hk2, hC2⟩ := HY.both.ref.reads
        obtain ⟨y0, y1⟩ := HS.out w5 HY.below
        have HSV : Aside0 (∀ V, Below w5.heap.size w5 V → V.cell? ⟨r, 0, none⟩ = some (.slice A2 M.length k2) ∧ V.cell? ⟨w.heap.size, 0, none⟩ = some (.string c.f0) ∧ V.cell? ⟨w.heap.size, 1, none⟩ = some (.int .i64 c.f1)) := ⟨fun V hV => ⟨(hV.cell (World.block_lt_of_cell? w5 _ r0)).trans r0, (hV.cell (World.block_lt_of_cell? w5 _ y0)).trans y0, (hV.cell (World.block_lt_of_cell? w5 _ y1)).trans y1⟩⟩
        have hSame := fun (V : World) (hV : Below w5.heap.size w5 V) => Same.calls M hlen A1 A2 k1 k2 V (Kd.C_below hC1 hV) hk1 (Kd.C_below hC2 hV) hk2
        have hLen := fun (V : World) (hV : Below w5.heap.size w5 V) => Len.calls s b M V (HY.both.held.below hV)
        have hHas := fun (V : World) (hV : Below w5.heap.size w5 V) => Has.calls s b M c hcw V (HY.both.held.below hV)
        have hRHas := fun (V : World) (hV : Below w5.heap.size w5 V) => RHas.calls r _ M c V (HY.both.ref.below hV) hlen
        have hAny := fun (V : World) (hV : Below w5.heap.size w5 V) => Any.calls s b M c.f0 V (HY.both.held.below hV) hlen
        have hRAny := fun (V : World) (hV : Below w5.heap.size w5 V) => RAny.calls r _ M c.f0 V (HY.both.ref.below hV) hlen
        generalize decide (c ∈ M) = ee at hHas hRHas
        generalize (M.any fun d => d.f0.toList == c.f0.toList) = ff at hAny hRAny
        have hq := Below.refl w5.heap.size w5
        clear hL R5 B5 hC1 hC2
        go_region_held3 (fun V => V.cell? ⟨r, 0, none⟩ = some (.slice A2 M.length k2) ∧ V.cell? ⟨w.heap.size, 0, none⟩ = some (.string c.f0) ∧ V.cell? ⟨w.heap.size, 1, none⟩ = some (.int .i64 c.f1)) (first | exact HSV.out _ hq | exact HSV.out _ (below_drew1 hq) | exact HSV.out _ q1 | exact HSV.out _ q2 | exact HSV.out _ q3 | exact HSV.out _ q4 | exact HSV.out _ q5 | exact HSV.out _ q6) (first | (go_at_call 11; first | (refine (hSame _ hq).mono ?_; rintro e6 u1 ⟨rfl, d1⟩; have q1 := below_go hq hq.size d1.below; clear d1) | (refine (hSame _ (below_drew1 hq)).mono ?_; rintro e6 u1 ⟨rfl, d1⟩; have q1 := below_go (below_drew1 hq) (below_drew1 hq).size d1.below; clear d1)) | (go_at_call 15; refine (hLen _ q1).mono ?_; rintro e7 u2 ⟨rfl, d2⟩; have q2 := below_go q1 q1.size d2.below; clear d2) | (go_at_call 14; refine (hHas _ q2).mono ?_; rintro e8 u3 ⟨rfl, d3⟩; have q3 := below_go q2 q2.size d3; clear d3) | (go_at_call 21; refine (hRHas _ q3).mono ?_; rintro e9 u4 ⟨rfl, d4⟩; have q4 := below_go q3 q3.size d4; clear d4) | (go_at_call 22; refine (hAny _ q4).mono ?_; rintro e10 u5 ⟨rfl, d5⟩; have q5 := below_go q4 q4.size d5; clear d5) | (go_at_call 23; refine (hRAny _ q5).mono ?_; rintro e11 u6 ⟨rfl, d6⟩; have q6 := below_go q5 q5.size d6.below; clear d6))
        have HROW6 := Aside0.mk (HROW.out.below q6)
        have HB6 := Aside0.mk (HZB.out.trans (q6.mono HZB.out.size))
        clear HROW hSame hLen hHas hRHas hAny hRAny HSV hq q1 q2 q3 q4 q5 q6 r0 y0 y1
        go_wp2
        go_loopg [10] M.length (fun gg v10 wr2 => ∃ k : Nat, k ≤ M.length ∧ M.length - k ≤ gg ∧ v10 = .int .i64 k ∧ Aside0 (Below w4.heap.size w4 wr2) ∧ Aside0 (RowAt wr2 w4.heap.size A1 k1 M.length))
        case atStart => exact ⟨0, Nat.zero_le _, by omega, rfl, HB6, HROW6⟩
        case round =>
          clear HZB HROW6 HB6 HL
          obtain ⟨k, hk0, hg2, rfl, HB, HR⟩ := hrel
          by_cases hkl : k < M.length
          · have c2 : decide ((k : Int) < (M.length : Int)) = true := decide_eq_true (by omega)
            have c3 : (0 : Int) ≤ (k : Int) := by omega
            have c4 : (k : Int) < (M.length : Int) := by omega
            rcases HR.out with ⟨_, h0⟩ | ⟨g, cur, rfl, hgb, hblk, hsz, hle⟩
            · omega
            have hbk := Aside0.mk hblk
            obtain ⟨u, hu⟩ : ∃ u, cur[k * 2]? = some u := ⟨_, Array.getElem?_eq_getElem (by omega)⟩
            have hx0 : wr.cell? ⟨g, k * 2, none⟩ = some u := (blk_cell hblk _).trans hu
            have hf := blk_frozen hblk (k * 2)
            clear hblk
            go_wp2
            go_roundg (M.length - (k + 1))
            case measure => omega
            case rel =>
              refine ⟨k + 1, by omega, Nat.le_refl _, by go_num, ⟨⟨HB.out.os, HB.out.tape, HB.out.output, by have := HB.out.size; simpa [World.setCell] using this, fun j hj => ?_⟩⟩, ⟨.inr ⟨g, _, rfl, hgb, blk_set hbk.out _ _, by simpa using hsz, hle⟩⟩⟩
              refine (Below.heap_setCell wr ⟨g, k * 2, none⟩ _ j (by show j ≠ g; omega)).trans (HB.out.block j hj)
          · have c2 : decide ((k : Int) < (M.length : Int)) = false := decide_eq_false (by omega)
            go_wp2
            go_roundg (l.length - (i + 1))
            case measure => omega
            case rel => exact ⟨i + 1, _, _, _, by omega, Nat.le_refl _, by go_num, rfl, HZ.both.below HB.out, HZ.below.trans (HB.out.mono HZ.below.size), HZ.rs, HZ.ss, HZ.bs⟩
    · have HX : Aside0 (¬ ((i : Int) < (l.length : Int) ∧ (i : Int) < 300)) := ⟨by omega⟩
      by_cases z : (i : Int) < (l.length : Int)
      · have b2 : decide ((i : Int) < (l.length : Int)) = true := decide_eq_true z
        have b3 : decide ((i : Int) < 300) = false := decide_eq_false (fun y => HX.out ⟨z, y⟩)
        go_wp2_with (go_at_call 9; refine (hk _).mono ?_; rintro e6 w6 ⟨rfl, B6⟩)
        go_ret
        exact ⟨rfl, HW.out.trans ((below_go HT.below HT.below.size B6).mono HW.out.size)⟩
      · have b2 : decide ((i : Int) < (l.length : Int)) = false := decide_eq_false z
        go_wp2_with (go_at_call 9; refine (hk _).mono ?_; rintro e6 w6 ⟨rfl, B6⟩)
        go_ret
        exact ⟨rfl, HW.out.trans ((below_go HT.below HT.below.size B6).mono HW.out.size)⟩
end Go.Proofs.Ythneeibphelofaa.QCondPlays
