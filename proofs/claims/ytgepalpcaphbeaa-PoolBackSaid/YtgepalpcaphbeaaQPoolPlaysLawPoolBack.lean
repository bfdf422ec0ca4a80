/- The law PoolBack, walked: for all resources and needs it comes to true. Each theorem names its own conditions. -/
import Derived.Test.YtgepalpcaphbeaaQPoolPlaysPoolRefNew
namespace Go.Proofs.Ytgepalpcaphbeaa.QPoolPlays
open Go.RowKit Go.Proofs.Ytgepalpcaphbeaa.PPoolPlays Go.Proofs.YtgepalpcaphbeaaW.PrintWords Go.Proofs.YtgepalpcaphbeaaW.PrintLast Go.Proofs.YtgepalpcaphbeaaW.PrintMore Go.Proofs.Ytgepalpcaphbeaa.MMaps
set_option linter.unusedVariables false
set_option linter.unusedSimpArgs false
set_option maxRecDepth 100000
theorem rdhp_at (L : List Hp) (i : Nat) (h : i < L.length) : rd_T40 L (i : Int) = L[i] := by
  unfold rd_T40
  rw [Int.toNat_natCast]
  simp [List.getD, List.getElem?_eq_getElem h]
theorem same_l0 (H : List Hd) (hl : H.length ≤ 100000) : ∀ (d i k : Nat), i + d = H.length → d + 1 ≤ k → dayshiftlaw13_same.l0 k (H.map toP) H (i : Int) = some true := by
  intro d
  induction d with
  | zero =>
    intro i k hi hk
    obtain ⟨k, rfl⟩ : ∃ q, k = q + 1 := ⟨k - 1, by omega⟩
    rw [dayshiftlaw13_same.l0.eq_2, if_neg (by simp; omega)]
  | succ d ih =>
    intro i k hi hk
    obtain ⟨k, rfl⟩ : ∃ q, k = q + 1 := ⟨k - 1, by omega⟩
    have e : rd_T40 (H.map toP) (i : Int) = toP H[i] := by rw [rdhp_at _ i (by simp; omega), List.getElem_map]
    rw [dayshiftlaw13_same.l0.eq_2, if_pos (by simp; omega), if_pos (by omega), if_pos (by omega), e, rdhd_at H i (by omega), if_pos (show (toP H[i]).f0 = H[i].f0 from rfl), if_pos (show (toP H[i]).f1.toList = H[i].f1.toList from rfl), if_pos (show (toP H[i]).f2 = H[i].f2 from rfl), if_pos (show (toP H[i]).f3 = H[i].f3 from rfl), wrap64_id (by omega) (by omega)]
    exact ih (i + 1) k (by omega) (by omega)
theorem same.calls (H : List Hd) (hl : H.length ≤ 100000) (A1 A2 : Option Addr) (c1 c2 : Nat) (w : World) (h1 : Kd.C k40 w A1 (H.map toP).length (H.map toP)) (h1c : H.length ≤ c1) (h2 : Kd.C k55 w A2 H.length H) (h2c : H.length ≤ c2) :
    Calls Try.prog 18 #[.slice A1 H.length c1, .slice A2 H.length c2] w fun e w' => e = .returned (.bool true) ∧ Drawn0 w w' := by
  have := dayshiftlaw13_same.calls (H.length + 1) A1 c1 (H.map toP) A2 c2 H true w h1 (by simpa using h1c) h2 h2c (by unfold dayshiftlaw13_same.f; rw [if_pos (by simp)]; exact same_l0 H hl H.length 0 (H.length + 1) (by omega) (by omega))
  rw [List.length_map] at this
  exact this
theorem May.of (p bt bh : Nat) (R : List Rs) (H : List Hd) (o : Int) (A : Option Addr) (c : Nat) (L : List Nr) (w : World) (h : PoolAt w p bt bh R H) (hC : Kd.C k61 w A (L.map toN).length (L.map toN)) (hc : L.length ≤ c) (hw : ∀ n ∈ L, wfN n) (hl : L.length < 4398046511104) :
    Calls Try.prog 19 #[.pointer (some ⟨p, 0, none⟩), .int .i64 o, .slice A L.length c] w fun e w' => e = .returned (.int .i64 (mayOf R H o (ndL L))) ∧ Below w.heap.size w w' := by
  have := May.calls p bt bh R H o A c (L.map toN) w h hC (by simpa using hc) (fun n hn => by obtain ⟨x, hx, rfl⟩ := List.mem_map.mp hn; exact (hw x hx).1) (by simp; omega)
  rw [List.length_map] at this
  exact this
theorem take_count {R : List Rs} {H : List Hd} {o : Int} {l : List Nd} : ((takeOf R H o l).length : Int) - (H.length : Int) = if mayOf R H o l = 0 then (l.length : Int) else 0 := by
  unfold takeOf
  split
  · rw [takes_length]; omega
  · omega
/-- What was taken and given again leaves all as it was. -/
theorem give_take {R : List Rs} {H : List Hd} {o : Int} {l : List Nd} (hg : Good R H) (hn : ∀ h ∈ H, h.f0 ≠ o) (hs : SortH (takeOf R H o l)) : giveOf (takeOf R H o l) o = H := by
  refine SortH.ext (hs.filter _) hg.sorted (fun c => ?_)
  unfold giveOf
  rw [List.mem_filter]
  constructor
  · rintro ⟨h1, h2⟩
    rcases takeOf_mem h1 with e | e
    · exact e
    · rw [e] at h2; simp at h2
  · intro h
    refine ⟨?_, by simpa using hn c h⟩
    unfold takeOf
    split
    · exact (takes_mem o c l H).mpr (.inl h)
    · exact h
set_option maxHeartbeats 32000000 in
theorem back_walk (A0 : Option Addr) (c0 : Nat) (l : List Rs) (A1 : Option Addr) (c1 : Nat) (F : List Nr) (A2 : Option Addr) (c2 : Nat) (S : List Nr) (w : World) (hl : Kd.C k53 w A0 l.length l) (hlc : l.length ≤ c0) (hlw : ∀ r ∈ l, wfR r) (hll : l.length ≤ 4398046511100)
    (hF : Kd.C k74 w A1 F.length F) (hFc : F.length ≤ c1) (hFw : ∀ n ∈ F, wfN n) (hFl : F.length ≤ 4398046511100) (hS : Kd.C k74 w A2 S.length S) (hSc : S.length ≤ c2) (hSw : ∀ n ∈ S, wfN n) (hSl : S.length ≤ 4398046511100) :
    Calls Try.prog 4 #[.slice A0 l.length c0, .slice A1 F.length c1, .slice A2 S.length c2] w fun e w' => e = .returned (.bool true) ∧ Below w.heap.size w w' := by
  have hk := fun (W : World) => known.calls W
  have big : ((20 < l.length) ∧ decide ((l.length : Int) > 20) = true ∧ decide ((20 : Int) < (l.length : Int)) = true) ∨ ((¬ 20 < l.length) ∧ decide ((l.length : Int) > 20) = false ∧ decide ((20 : Int) < (l.length : Int)) = false) := by
    by_cases h : 20 < l.length
    · exact .inl ⟨h, decide_eq_true (by omega), decide_eq_true (by omega)⟩
    · exact .inr ⟨h, decide_eq_false (by omega), decide_eq_false (by omega)⟩
  have bigF : ((20 < F.length) ∧ decide ((F.length : Int) > 20) = true ∧ decide ((20 : Int) < (F.length : Int)) = true) ∨ ((¬ 20 < F.length) ∧ decide ((F.length : Int) > 20) = false ∧ decide ((20 : Int) < (F.length : Int)) = false) := by
    by_cases h : 20 < F.length
    · exact .inl ⟨h, decide_eq_true (by omega), decide_eq_true (by omega)⟩
    · exact .inr ⟨h, decide_eq_false (by omega), decide_eq_false (by omega)⟩
  have bigS : ((20 < S.length) ∧ decide ((S.length : Int) > 20) = true ∧ decide ((20 : Int) < (S.length : Int)) = true) ∨ ((¬ 20 < S.length) ∧ decide ((S.length : Int) > 20) = false ∧ decide ((20 : Int) < (S.length : Int)) = false) := by
    by_cases h : 20 < S.length
    · exact .inl ⟨h, decide_eq_true (by omega), decide_eq_true (by omega)⟩
    · exact .inr ⟨h, decide_eq_false (by omega), decide_eq_false (by omega)⟩
  have HF := Aside0.mk hF
  have HS := Aside0.mk hS
  have HL := Aside0.mk hl
  clear hF hS hl
  rcases big with ⟨z1, b1, b2⟩ | ⟨z1, b1, b2⟩
  · clear bigF bigS
    go_enter Try.func4, Try.ntmps4
    go_wp2_with (go_at_call 8; refine (hk _).mono ?_; rintro e w1 ⟨rfl, b⟩)
    go_ret
    exact ⟨rfl, b⟩
  rcases bigF with ⟨z2, b3, b4⟩ | ⟨z2, b3, b4⟩
  · clear bigS
    go_enter Try.func4, Try.ntmps4
    go_wp2_with (go_at_call 8; refine (hk _).mono ?_; rintro e w1 ⟨rfl, b⟩)
    go_ret
    exact ⟨rfl, b⟩
  rcases bigS with ⟨z3, b5, b6⟩ | ⟨z3, b5, b6⟩
  · go_enter Try.func4, Try.ntmps4
    go_wp2_with (go_at_call 8; refine (hk _).mono ?_; rintro e w1 ⟨rfl, b⟩)
    go_ret
    exact ⟨rfl, b⟩
  have hres := res.calls A0 c0 l w HL.out hlc (by omega)
  have hRl := poolR_len l
  go_enter Try.func4, Try.ntmps4
  go_upto_region 7 with (first
    | (go_at_call 10; refine hres.mono ?_; rintro e w1 ⟨v, rfl, hR1, hB1⟩; obtain ⟨A3, k3, e2, hk3, hC3⟩ := Kd.R_reads hR1; rw [List.length_map] at e2 hk3; subst e2; clear hR1 hres)
    | (go_at_call 9; refine (New.of A3 k3 l w1 hC3 hk3 hlw (by omega)).mono ?_; rintro e w2 ⟨p, bt, bh, rfl, hp, hbt, hbh, hP2, hB2⟩; have q2 := below_go hB1 hB1.size hB2; have hpb := Nat.le_trans hB1.size hp; have hbtb := Nat.le_trans hB1.size hbt; have hbhb := Nat.le_trans hB1.size hbh; clear hC3 hp hbt hbh hB2 hB1)
    | (go_at_call 16; refine (RNew.calls A0 c0 l w2 (Kd.C_below HL.out q2) hlc (by omega)).mono ?_; rintro e w3 ⟨rfl, hR3, hB3⟩; have hP3 := hP2.below hB3; have q3 := below_go q2 q2.size hB3))
  have hltp := hP2.ltp
  have hltt := hP2.things.lt
  have hlth := hP2.held.lt
  have hr3 := hR3.lt
  have q2s := q2.size
  clear hP2 hB3 q2
  have hwr : w.heap.size ≤ w2.heap.size := q2s
  generalize w2.heap.size = r at *
  generalize poolR l = R at *
  have hN1 := fun (V : World) (hV : Below w.heap.size w V) => needs.calls A1 c1 F V (Kd.C_below HF.out hV) hFc (by omega)
  have hRT := fun (V : World) (h1 : RefAt V r (fun k => r < k) R []) (h2 : Below w.heap.size w V) (h3 : r < V.heap.size) => RTake.calls r (fun k => r < k) R [] 1 A1 c1 F V h1 hP3.good (Kd.C_below HF.out h2) hFc (by omega) (fun _ => by simp; omega) (fun k hk => by omega) (by omega)
  go_upto_region 9 with (first
    | (go_at_call 13; refine (hN1 _ q3).mono ?_; rintro e w4 ⟨v, rfl, hR4, hB4⟩; obtain ⟨A4, k4, e4, hk4, hC4⟩ := Kd.R_reads hR4; rw [List.length_map] at e4 hk4; subst e4; clear hR4)
    | (go_at_call 12; refine (Take.of p bt bh R [] 1 A4 k4 F w4 (hP3.below hB4) hC4 hk4 hFw (by decide) (by omega) (by simp; omega)).mono ?_; rintro e w5 ⟨rfl, hP5, hg5⟩; have q4 := below_go q3 q3.size hB4; have q5 : Below w.heap.size w w5 := q4.trans (grown_below hg5 hbhb q4.size); have hR5 := (hR3.below hB4).grown hg5 (by simp; omega) (fun k hk => by simp; omega); have hr5 : r < w5.heap.size := Nat.lt_of_lt_of_le hr3 (Nat.le_trans hB4.size hg5.size); clear hC4)
    | (go_at_call 17; refine (hRT w5 hR5 q5 hr5).mono ?_; rintro e w6 ⟨rfl, hR6, hg6⟩))
  have hO1 : ∀ h ∈ takeOf R [] 1 (ndL F), h.f0 ≠ 2 := fun h hh => by
    rcases takeOf_mem hh with e | e
    · cases e
    · omega
  have hL1 := takeOf_len R [] 1 (ndL F)
  have hG1 := hP5.good
  have hP6 := hP5.kept hg6 (by simp; omega) (by simp; omega) (by simp; omega)
  have q6 : Below w.heap.size w w6 := q5.trans (grown_below hg6 hwr q5.size)
  have hr6 : r < w6.heap.size := Nat.lt_of_lt_of_le hr5 hg6.size
  clear hP5 hR5 hg5 hB4 q4 q5 hg6 hR3 hP3 q3 hr3 hN1 hRT hr5
  generalize takeOf R [] 1 (ndL F) = H1 at *
  rw [List.length_nil] at hL1
  have hN2 := fun (V : World) (hV : Below w.heap.size w V) => needs.calls A2 c2 S V (Kd.C_below HS.out hV) hSc (by omega)
  go_upto_region 10 with (first
    | (go_at_call 13; refine (hN2 _ q6).mono ?_; rintro e w7 ⟨v, rfl, hR7, hB7⟩; obtain ⟨A5, k5, e5, hk5, hC5⟩ := Kd.R_reads hR7; rw [List.length_map] at e5 hk5; subst e5; clear hR7)
    | (go_at_call 12; refine (Take.of p bt bh R H1 2 A5 k5 S w7 (hP6.below hB7) hC5 hk5 hSw (by decide) (by omega) (by omega)).mono ?_; rintro e w8 ⟨rfl, hP8, hg8⟩; have q7 := below_go q6 q6.size hB7; have q8 : Below w.heap.size w w8 := q7.trans (grown_below hg8 hbhb q7.size); have hR8 := (hR6.below hB7).grown hg8 (by simp; omega) (fun k hk => by simp; omega); clear hC5))
  have hGT := give_take hG1 hO1 hP8.good.sorted
  have hGv := Give.calls p bt bh R (takeOf R H1 2 (ndL S)) 2 w8 hP8
  have hct := take_count (R := R) (H := H1) (o := 2) (l := ndL S)
  have hlth8 := hP8.held.lt
  rw [hGT, hct] at hGv
  clear hGT hct hP8 hg8 hB7 q7 hP6 q6 hR6 hN2
  obtain ⟨e0, he0⟩ : ∃ e0, mayOf R H1 2 (ndL S) = e0 := ⟨_, rfl⟩
  rw [he0] at hGv
  simp only [he0]
  by_cases hz : e0 = 0
  · subst hz
    rw [if_pos rfl, show (ndL S).length = S.length from List.length_map ..] at hGv
    have hne : ((S.length : Int) != (S.length : Int)) = false := bne_self_eq_false _
    go_upto_region 15 with (go_at_call 11; refine hGv.mono ?_; rintro e w9 ⟨rfl, hP9', hg9⟩; have q9 : Below w.heap.size w w9 := q8.trans (grown_below hg9 hbhb q8.size); have hR9 := hR8.grown hg9 (by simp; omega) (fun k hk => by simp; omega))
    clear hGv hg9 hR8 q8
    have hP9 := hP9'
    obtain ⟨B1, d1, B2, d2, _, r1, _, hd2, _, hCH⟩ := hR9.reads
    have HCH := Aside0.mk hCH
    clear hCH
    have HSV : Aside0 (∀ V, Below w9.heap.size w9 V → V.cell? ⟨r, 1, none⟩ = some (.slice B2 H1.length d2)) := ⟨fun V hV => (hV.cell (World.block_lt_of_cell? w9 _ r1)).trans r1⟩
    have hLs := fun (V : World) (hV : Below w9.heap.size w9 V) => List.calls p bt bh R H1 V (hP9.below hV)
    have hN3 := fun (V : World) (hV : Below w9.heap.size w9 V) => needs.calls A2 c2 S V (Kd.C_below HS.out (below_go q9 q9.size hV)) hSc (by omega)
    have hMy := fun (V : World) (A : Option Addr) (c : Nat) (hV : Below w9.heap.size w9 V) hC hc => May.of p bt bh R H1 2 A c S V (hP9.below hV) hC hc hSw (by omega)
    rw [he0] at hMy
    have hH1l : H1.length ≤ 100000 := hG1.hlen
    have hq := Below.refl w9.heap.size w9
    go_region_held3 (fun V => V.cell? ⟨r, 1, none⟩ = some (.slice B2 H1.length d2)) (first | exact HSV.out _ hq | exact HSV.out _ (below_drew1 hq) | exact HSV.out _ v1 | exact HSV.out _ v2 | exact HSV.out _ v3 | exact HSV.out _ v4 | exact HSV.out _ v5) (first
      | (go_at_call 14; first | (refine (hLs _ hq).mono ?_; rintro e9 x1 ⟨v9, rfl, hR10, hB10⟩; have v1 := below_go hq hq.size hB10; obtain ⟨A6, k6, e6, hk6, hC6⟩ := Kd.R_reads hR10; rw [List.length_map] at e6 hk6; subst e6; clear hR10) | (refine (hLs _ (below_drew1 hq)).mono ?_; rintro e9 x1 ⟨v9, rfl, hR10, hB10⟩; have v1 := below_go (below_drew1 hq) (below_drew1 hq).size hB10; obtain ⟨A6, k6, e6, hk6, hC6⟩ := Kd.R_reads hR10; rw [List.length_map] at e6 hk6; subst e6; clear hR10))
      | (go_at_call 18; refine (same.calls H1 hH1l A6 B2 k6 d2 _ hC6 hk6 (Kd.C_below HCH.out v1) hd2).mono ?_; rintro e10 x2 ⟨rfl, dr⟩; have v2 := below_go v1 v1.size dr.below; clear dr hC6)
      | (go_at_call 13; refine (hN3 _ v2).mono ?_; rintro e11 x3 ⟨v12, rfl, hR12, hB12⟩; have v3 := below_go v2 v2.size hB12; obtain ⟨A7, k7, e7, hk7, hC7⟩ := Kd.R_reads hR12; rw [List.length_map] at e7 hk7; subst e7; clear hR12)
      | (go_at_call 19; refine (hMy _ A7 k7 v3 hC7 hk7).mono ?_; rintro e12 x4 ⟨rfl, hB13⟩; have v4 := below_go v3 v3.size hB13)
      | (go_at_call 8; refine (hk _).mono ?_; rintro e13 x5 ⟨rfl, hB14⟩; have v5 := below_go v4 v4.size hB14))
    go_wp2
    go_ret
    exact ⟨rfl, below_go q9 q9.size v5⟩
  · rw [if_neg hz] at hGv
    have n0 : (e0 == 0) = false := beq_eq_false_iff_ne.mpr hz
    go_upto_region 15 with (go_at_call 11; refine hGv.mono ?_; rintro e w9 ⟨rfl, hP9', hg9⟩; have q9 : Below w.heap.size w w9 := q8.trans (grown_below hg9 hbhb q8.size); have hR9 := hR8.grown hg9 (by simp; omega) (fun k hk => by simp; omega))
    clear hGv hg9 hR8 q8
    have hP9 := hP9'
    obtain ⟨B1, d1, B2, d2, _, r1, _, hd2, _, hCH⟩ := hR9.reads
    have HCH := Aside0.mk hCH
    clear hCH
    have HSV : Aside0 (∀ V, Below w9.heap.size w9 V → V.cell? ⟨r, 1, none⟩ = some (.slice B2 H1.length d2)) := ⟨fun V hV => (hV.cell (World.block_lt_of_cell? w9 _ r1)).trans r1⟩
    have hLs := fun (V : World) (hV : Below w9.heap.size w9 V) => List.calls p bt bh R H1 V (hP9.below hV)
    have hN3 := fun (V : World) (hV : Below w9.heap.size w9 V) => needs.calls A2 c2 S V (Kd.C_below HS.out (below_go q9 q9.size hV)) hSc (by omega)
    have hMy := fun (V : World) (A : Option Addr) (c : Nat) (hV : Below w9.heap.size w9 V) hC hc => May.of p bt bh R H1 2 A c S V (hP9.below hV) hC hc hSw (by omega)
    rw [he0] at hMy
    have hH1l : H1.length ≤ 100000 := hG1.hlen
    have hq := Below.refl w9.heap.size w9
    go_region_held3 (fun V => V.cell? ⟨r, 1, none⟩ = some (.slice B2 H1.length d2)) (first | exact HSV.out _ hq | exact HSV.out _ (below_drew1 hq) | exact HSV.out _ v1 | exact HSV.out _ v2 | exact HSV.out _ v3 | exact HSV.out _ v4 | exact HSV.out _ v5) (first
      | (go_at_call 14; first | (refine (hLs _ hq).mono ?_; rintro e9 x1 ⟨v9, rfl, hR10, hB10⟩; have v1 := below_go hq hq.size hB10; obtain ⟨A6, k6, e6, hk6, hC6⟩ := Kd.R_reads hR10; rw [List.length_map] at e6 hk6; subst e6; clear hR10) | (refine (hLs _ (below_drew1 hq)).mono ?_; rintro e9 x1 ⟨v9, rfl, hR10, hB10⟩; have v1 := below_go (below_drew1 hq) (below_drew1 hq).size hB10; obtain ⟨A6, k6, e6, hk6, hC6⟩ := Kd.R_reads hR10; rw [List.length_map] at e6 hk6; subst e6; clear hR10))
      | (go_at_call 18; refine (same.calls H1 hH1l A6 B2 k6 d2 _ hC6 hk6 (Kd.C_below HCH.out v1) hd2).mono ?_; rintro e10 x2 ⟨rfl, dr⟩; have v2 := below_go v1 v1.size dr.below; clear dr hC6)
      | (go_at_call 13; refine (hN3 _ v2).mono ?_; rintro e11 x3 ⟨v12, rfl, hR12, hB12⟩; have v3 := below_go v2 v2.size hB12; obtain ⟨A7, k7, e7, hk7, hC7⟩ := Kd.R_reads hR12; rw [List.length_map] at e7 hk7; subst e7; clear hR12)
      | (go_at_call 19; refine (hMy _ A7 k7 v3 hC7 hk7).mono ?_; rintro e12 x4 ⟨rfl, hB13⟩; have v4 := below_go v3 v3.size hB13)
      | (go_at_call 8; refine (hk _).mono ?_; rintro e13 x5 ⟨rfl, hB14⟩; have v5 := below_go v4 v4.size hB14))
    go_wp2
    go_ret
    exact ⟨rfl, below_go q9 q9.size v5⟩
end Go.Proofs.Ytgepalpcaphbeaa.QPoolPlays
