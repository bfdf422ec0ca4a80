/- The law NeedHeld, walked: for all resources and needs it comes to true. Each theorem names its own conditions. -/
import Derived.Test.YtgdnljhndjlefaaQNeedFitsNeedLaw
namespace Go.Proofs.Ytgdnljhndjlefaa.QNeedFits
open Go.RowKit Go.Proofs.Ytgdnljhndjlefaa.PNeedFits Go.Proofs.YtgdnljhndjlefaaW.PrintWords Go.Proofs.YtgdnljhndjlefaaW.PrintLast Go.Proofs.YtgdnljhndjlefaaW.PrintMore Go.Proofs.Ytgdnljhndjlefaa.MMaps
set_option linter.unusedVariables false
set_option linter.unusedSimpArgs false
set_option maxRecDepth 100000
def totF (s : ByteArray) (t : Tot) (L : List Hp) : Tot := L.foldl (fun t h => if eqS h.f1 s then tot1 t h.f2 h.f3 else t) t
theorem tot_units (s : ByteArray) : ∀ (L : List Hd) (t : Tot), (∀ h ∈ L, h.f1 = s → h.f3 = 0 ∧ 0 ≤ h.f2) → 0 ≤ t.n → t.n + sumBy (ofName s) L ≤ 4096000 → totF s t (L.map toP) = ⟨t.n + sumBy (ofName s) L, t.s, t.x⟩ ∧ 0 ≤ sumBy (ofName s) L
  | [], t, _, _, _ => ⟨by show t = ⟨t.n + 0, t.s, t.x⟩; rw [Int.add_zero], Int.le_refl _⟩
  | h :: r, t, hm, h0, hb => by
    have e : sumBy (ofName s) (h :: r) = ofName s h + sumBy (ofName s) r := rfl
    have ef : totF s t ((h :: r).map toP) = totF s (if eqS h.f1 s then tot1 t h.f2 h.f3 else t) (r.map toP) := rfl
    rw [e] at hb ⊢
    rw [ef]
    cases hq : eqS h.f1 s with
    | false =>
      have ho : ofName s h = 0 := by unfold ofName; rw [hq]; rfl
      rw [ho] at hb ⊢
      have := tot_units s r t (fun x hx => hm x (.tail _ hx)) h0 (by omega)
      refine ⟨?_, by omega⟩
      simp only [Bool.false_eq_true, if_false]
      rw [this.1]
      congr 1
      omega
    | true =>
      have ho : ofName s h = h.f2 := by unfold ofName; rw [hq]; rfl
      obtain ⟨h3, h2⟩ := hm h (.head _) (eqS_iff.mp hq)
      rw [ho] at hb ⊢
      have hnn : 0 ≤ sumBy (ofName s) r := sumBy_nn (fun x hx => by
        unfold ofName
        split
        · rename_i q; exact (hm x (.tail _ hx) (eqS_iff.mp q)).2
        · exact Int.le_refl _)
      have e1 : tot1 t h.f2 h.f3 = ⟨t.n + h.f2, t.s, t.x⟩ := by
        unfold tot1
        rw [if_pos h3]
        congr 1
        omega
      simp only [if_true]
      rw [e1]
      have := tot_units s r ⟨t.n + h.f2, t.s, t.x⟩ (fun x hx => hm x (.tail _ hx)) (by dsimp only; omega) (by dsimp only; omega)
      refine ⟨?_, by omega⟩
      rw [this.1]
      congr 1
      dsimp only
      omega
where
  sumBy_nn {g : Hd → Int} : ∀ {L : List Hd}, (∀ x ∈ L, 0 ≤ g x) → 0 ≤ sumBy g L
    | [], _ => Int.le_refl _
    | y :: r, h => by
      have h1 := sumBy_nn (g := g) (L := r) (fun x hx => h x (.tail _ hx))
      have h2 := h y (.head _)
      unfold sumBy
      omega
def named (s : ByteArray) (L : List Hd) : List Hd := L.filter fun h => eqS h.f1 s
theorem tot_locks (s : ByteArray) : ∀ (L : List Hd) (t : Tot), (∀ h ∈ L, h.f1 = s → h.f3 = 1 ∨ h.f3 = 2) → totF s t (L.map toP) = ⟨t.n, t.s + ((named s L).filter fun h => decide (h.f3 = 1)).length, t.x + ((named s L).filter fun h => decide (h.f3 = 2)).length⟩
  | [], t, _ => by show t = ⟨t.n, t.s + 0, t.x + 0⟩; rw [Int.add_zero, Int.add_zero]
  | h :: r, t, hm => by
    have ef : totF s t ((h :: r).map toP) = totF s (if eqS h.f1 s then tot1 t h.f2 h.f3 else t) (r.map toP) := rfl
    rw [ef, tot_locks s r _ (fun x hx => hm x (.tail _ hx))]
    cases hq : eqS h.f1 s with
    | false =>
      have e : named s (h :: r) = named s r := by unfold named; rw [List.filter_cons, hq]; rfl
      rw [e]; rfl
    | true =>
      have e : named s (h :: r) = h :: named s r := by unfold named; rw [List.filter_cons, hq]; rfl
      rw [e]
      simp only [if_true]
      rcases hm h (.head _) (eqS_iff.mp hq) with z | z
      · have e1 : tot1 t h.f2 h.f3 = ⟨t.n, t.s + 1, t.x⟩ := by unfold tot1; rw [if_neg (by omega), if_pos z]
        rw [e1, List.filter_cons, if_pos (decide_eq_true z), List.filter_cons, if_neg (by rw [z]; decide), List.length_cons]
        congr 1
        dsimp only
        omega
      · have e1 : tot1 t h.f2 h.f3 = ⟨t.n, t.s, t.x + 1⟩ := by unfold tot1; rw [if_neg (by omega), if_neg (by omega), if_pos z]
        rw [e1, List.filter_cons, if_neg (by rw [z]; decide), List.filter_cons, if_pos (decide_eq_true z), List.length_cons]
        congr 1
        dsimp only
        omega
/-- What the law asks of a name. -/
structure HeldSays (R : List Rs) (H : List Hd) (s : ByteArray) (t : Tot) : Prop where
  u : (unitsOf R s).2 = 0 → t.n = (unitsOf R s).1 - (freeOf R H s).1 ∧ t.s = 0 ∧ t.x = 0 ∧ 0 ≤ t.n ∧ t.n ≤ 1000
  l : (unitsOf R s).2 ≠ 0 → t.n = 0 ∧ t.x ≤ 1 ∧ (t.x = 1 → t.s ≤ 0)
theorem held_says {R : List Rs} {H : List Hd} (hg : Good R H) (hs : Safe R H) (s : ByteArray) : HeldSays R H s (totOf s (H.map toP)) := by
  have e0 : totOf s (H.map toP) = totF s ⟨0, 0, 0⟩ (H.map toP) := rfl
  rw [e0]
  constructor
  · intro he
    have hr : ∃ r, findR R s = some r ∧ r.f2 = false := by
      unfold unitsOf at he
      cases hf : findR R s with
      | none => rw [hf] at he; cases he
      | some r =>
        rw [hf] at he
        dsimp only at he
        cases hb : r.f2 with
        | true => rw [hb] at he; cases he
        | false => exact ⟨r, rfl, hb⟩
    obtain ⟨r, hf, hb⟩ := hr
    have hu : (unitsOf R s).1 = r.f1 := by unfold unitsOf; rw [hf]; dsimp only; rw [hb]; rfl
    have hrw := hg.rwf r (findR_some hf).1
    have hfr := hs.free s he
    have hfo : (freeOf R H s).1 = (unitsOf R s).1 - sumBy (ofName s) H := by unfold freeOf; rw [if_pos he]
    have hm : ∀ h ∈ H, h.f1 = s → h.f3 = 0 ∧ 0 ≤ h.f2 := fun h hh e => by
      obtain ⟨r', hf', q⟩ := hs.ok h hh
      rw [e, hf] at hf'
      cases hf'
      rcases q with ⟨_, q1, q2⟩ | ⟨q, _⟩
      · exact ⟨q1, by omega⟩
      · rw [hb] at q; cases q
    have ht := tot_units s H ⟨0, 0, 0⟩ hm (Int.le_refl _) (by dsimp only; omega)
    rw [ht.1]
    have := ht.2
    dsimp only
    refine ⟨by omega, rfl, rfl, by omega, by omega⟩
  · intro he
    have hm : ∀ h ∈ H, h.f1 = s → h.f3 = 1 ∨ h.f3 = 2 := fun h hh e => by
      obtain ⟨r', hf', q⟩ := hs.ok h hh
      rw [e] at hf'
      rcases q with ⟨q, _⟩ | ⟨_, q, _⟩
      · exfalso
        apply he
        unfold unitsOf
        rw [hf']
        dsimp only
        rw [q]
        rfl
      · exact q
    rw [tot_locks s H ⟨0, 0, 0⟩ hm]
    dsimp only
    have hnd : (named s H).Nodup := List.Nodup.sublist List.filter_sublist (apart_nodup hg.sorted.apart)
    have key : ∀ h ∈ named s H, h.f3 = 2 → (named s H).length ≤ 1 := fun h hh h2 => by
      have hh' := List.mem_filter.mp hh
      have all : ∀ k ∈ named s H, k = h := fun k hk => by
        have hk' := List.mem_filter.mp hk
        exact (hs.alone h hh'.1 k hk'.1 h2 ((eqS_iff.mp hh'.2).trans (eqS_iff.mp hk'.2).symm)).symm
      match hN : named s H with
      | [] => simp
      | [_] => simp
      | x :: y :: z =>
        exfalso
        rw [hN] at hnd all
        have e1 := all x (by simp)
        have e2 := all y (by simp)
        rw [e1, e2] at hnd
        simp at hnd
    refine ⟨rfl, ?_, ?_⟩
    · by_cases hx : ∃ h ∈ named s H, h.f3 = 2
      · obtain ⟨h, hh, h2⟩ := hx
        have := key h hh h2
        have := List.length_filter_le (fun h : Hd => decide (h.f3 = 2)) (named s H)
        omega
      · rw [List.filter_eq_nil_iff.mpr (fun h hh => by simpa using fun q => hx ⟨h, hh, q⟩)]
        simp
    · intro hx1
      by_cases hx : ∃ h ∈ named s H, h.f3 = 2
      · obtain ⟨h, hh, h2⟩ := hx
        have hl := key h hh h2
        have all : ∀ k ∈ named s H, k = h := fun k hk => by
          match hN : named s H with
          | [] => rw [hN] at hk; cases hk
          | [q] =>
            rw [hN] at hk hh
            rw [List.mem_singleton] at hk hh
            rw [hk, hh]
          | x :: y :: z => rw [hN] at hl; simp at hl
        rw [List.filter_eq_nil_iff.mpr (fun k hk => by rw [all k hk, h2]; simp)]
        simp
      · rw [List.filter_eq_nil_iff.mpr (fun h hh => by simpa using fun q => hx ⟨h, hh, q⟩)] at hx1
        simp at hx1
theorem safe_takeOf {R : List Rs} {H : List Hd} (h : Safe R H) (o : Int) (l : List Nd) : Safe R (takeOf R H o l) := by
  unfold takeOf
  split
  · rename_i hm
    have := h.take hm l.length (Nat.le_refl _)
    rwa [List.take_length] at this
  · exact h
theorem Total.of (R : List Rs) (H : List Hd) (s : ByteArray) (A : Option Addr) (c : Nat) (V : World) (hg : Good R H) (hC : Kd.C k57 V A (H.map toP).length (H.map toP)) (hc : H.length ≤ c) :
    Calls Try.prog 20 #[.slice A H.length c, .string s] V fun e w' => e = .returned (.tuple #[.int .i64 (totOf s (H.map toP)).n, .int .i64 (totOf s (H.map toP)).s, .int .i64 (totOf s (H.map toP)).x]) ∧ Below V.heap.size V w' := by
  have := Total.calls A c (H.map toP) s V hC (by rw [List.length_map]; exact hc) (by have := hg.hlen; simp; omega) (fun h hh => by obtain ⟨y, hy, rfl⟩ := List.mem_map.mp hh; have := (hg.hwf y hy).2.1; show -9223372036854775808 ≤ y.f2; omega)
  rw [List.length_map] at this
  exact this
set_option maxHeartbeats 32000000 in
theorem held_walk (A0 : Option Addr) (c0 : Nat) (l : List Rs) (A1 : Option Addr) (c1 : Nat) (F : List Nr) (A2 : Option Addr) (c2 : Nat) (S : List Nr) (w : World) (hl : Kd.C k47 w A0 l.length l) (hlc : l.length ≤ c0) (hlw : ∀ r ∈ l, wfR r) (hll : l.length ≤ 4398046511100)
    (hF : Kd.C k80 w A1 F.length F) (hFc : F.length ≤ c1) (hFw : ∀ n ∈ F, wfN n) (hFl : F.length ≤ 4398046511100) (hS : Kd.C k80 w A2 S.length S) (hSc : S.length ≤ c2) (hSw : ∀ n ∈ S, wfN n) (hSl : S.length ≤ 4398046511100) :
    Calls Try.prog 5 #[.slice A0 l.length c0, .slice A1 F.length c1, .slice A2 S.length c2] w fun e w' => e = .returned (.bool true) ∧ Below w.heap.size w w' := by
  have hk := fun (W : World) => known.calls W
  have HF := Aside0.mk hF
  have HS := Aside0.mk hS
  have HL := Aside0.mk hl
  clear hF hS hl
  rcases more_than l.length 20 with ⟨z1, b1, b2⟩ | ⟨z1, b1, b2⟩
  · go_enter Try.func5, Try.ntmps5
    go_wp2_with (go_at_call 8; refine (hk _).mono ?_; rintro e w1 ⟨rfl, b⟩)
    go_ret
    exact ⟨rfl, b⟩
  rcases more_than F.length 20 with ⟨z2, b3, b4⟩ | ⟨z2, b3, b4⟩
  · go_enter Try.func5, Try.ntmps5
    go_wp2_with (go_at_call 8; refine (hk _).mono ?_; rintro e w1 ⟨rfl, b⟩)
    go_ret
    exact ⟨rfl, b⟩
  rcases more_than S.length 20 with ⟨z3, b5, b6⟩ | ⟨z3, b5, b6⟩
  · go_enter Try.func5, Try.ntmps5
    go_wp2_with (go_at_call 8; refine (hk _).mono ?_; rintro e w1 ⟨rfl, b⟩)
    go_ret
    exact ⟨rfl, b⟩
  have hres := res.calls A0 c0 l w HL.out hlc (by omega)
  have hRl := poolR_len l
  go_enter Try.func5, Try.ntmps5
  go_upto_region 6 with (first
    | (go_at_call 10; refine hres.mono ?_; rintro e w1 ⟨v, rfl, hR1, hB1⟩; obtain ⟨A3, k3, e2, hk3, hC3⟩ := Kd.R_reads hR1; rw [List.length_map] at e2 hk3; subst e2; clear hR1 hres)
    | (go_at_call 9; refine (New.of A3 k3 l w1 hC3 hk3 hlw (by omega)).mono ?_; rintro e w2 ⟨p, bt, bh, rfl, hp, hbt, hbh, hP2, hB2⟩; have hq := below_go hB1 hB1.size hB2; have hbhb := Nat.le_trans hB1.size hbh; clear hC3 hp hbt hbh hB2 hB1))
  clear b1 b2 b3 b4 b5 b6
  generalize poolR l = R at *
  have hsf0 := Safe.nil hP2.good
  have hN1 := fun (V : World) (hV : Below w.heap.size w V) => needs.calls A1 c1 F V (Kd.C_below HF.out hV) hFc (by omega)
  have hN2 := fun (V : World) (hV : Below w.heap.size w V) => needs.calls A2 c2 S V (Kd.C_below HS.out hV) hSc (by omega)
  go_upto_region 7 with (first
    | (go_at_call 13; refine (hN1 _ hq).mono ?_; rintro e w4 ⟨v, rfl, hR4, hB4⟩; obtain ⟨A4, k4, e4, hk4, hC4⟩ := Kd.R_reads hR4; rw [List.length_map] at e4 hk4; subst e4; clear hR4)
    | (go_at_call 12; refine (Take.of p bt bh R [] 1 A4 k4 F w4 (hP2.below hB4) hC4 hk4 hFw (by decide) (by omega) (by simp; omega)).mono ?_; rintro e w5 ⟨rfl, hP5, hg5⟩; have q4 := below_go hq hq.size hB4; have q5 : Below w.heap.size w w5 := q4.trans (grown_below hg5 hbhb q4.size); clear hC4))
  have hsf1 := safe_takeOf hsf0 1 (ndL F)
  have hL1 := takeOf_len R [] 1 (ndL F)
  rw [List.length_nil] at hL1
  clear hP2 hg5 hB4 q4 hq hN1 hsf0
  generalize takeOf R [] 1 (ndL F) = H1 at *
  go_upto_region 8 with (first
    | (go_at_call 13; refine (hN2 _ q5).mono ?_; rintro e w7 ⟨v, rfl, hR7, hB7⟩; obtain ⟨A5, k5, e5, hk5, hC5⟩ := Kd.R_reads hR7; rw [List.length_map] at e5 hk5; subst e5; clear hR7)
    | (go_at_call 12; refine (Take.of p bt bh R H1 2 A5 k5 S w7 (hP5.below hB7) hC5 hk5 hSw (by decide) (by omega) (by omega)).mono ?_; rintro e w8 ⟨rfl, hP, hg8⟩; have q7 := below_go q5 q5.size hB7; have hq : Below w.heap.size w w8 := q7.trans (grown_below hg8 hbhb q7.size); clear hC5))
  have hsf := safe_takeOf hsf1 2 (ndL S)
  have hL2 := takeOf_len R H1 2 (ndL S)
  clear hP5 hg8 hB7 q7 q5 hN2 hsf1
  generalize takeOf R H1 2 (ndL S) = H at *
  have HSY := Aside0.mk (fun s => held_says hP.good hsf s)
  have HGD := Aside0.mk hP.good
  clear hsf
  go_wp2
  go_loopg [8] l.length (fun gg v8 wr => ∃ i : Nat, i ≤ l.length ∧ l.length - i ≤ gg ∧ v8 = .int .i64 i ∧ PoolAt wr p bt bh R H ∧ Below w.heap.size w wr)
  case atStart => exact ⟨0, Nat.zero_le _, by omega, rfl, hP, hq⟩
  case round =>
    clear hP hq
    obtain ⟨i, hi, hg, rfl, hP, hq⟩ := hrel
    by_cases hlt : i < l.length
    · have b2 : decide ((i : Int) < (l.length : Int)) = true := decide_eq_true (by omega)
      obtain ⟨ad, e, x0, x1, x2⟩ := at_T47 HL.out (i : Int) (by omega) (by omega)
      cases e
      have hbk := World.block_lt_of_cell? w _ x0
      rw [rdrs_at l i hlt, Int.toNat_natCast] at x0
      rw [Int.toNat_natCast] at hbk
      have hwx := (hlw _ (List.getElem_mem hlt)).1
      obtain ⟨x, hx⟩ : ∃ x, l[i] = x := ⟨_, rfl⟩
      rw [hx] at x0 hwx
      clear hx x1 x2
      have HCE : Aside0 (∀ V, Below w.heap.size w V → V.cell? (ad.add (i * 3)) = some (.string x.f0)) := ⟨fun V hV => (hV.cell hbk).trans x0⟩
      clear x0
      have hLs := fun (V : World) (hV : PoolAt V p bt bh R H) => List.calls p bt bh R H V hV
      have hT := fun (V : World) A c hC hc => Total.of R H x.f0 A c V HGD.out hC hc
      have hU := fun (V : World) (hV : PoolAt V p bt bh R H) => Units.calls p bt bh R H x.f0 hwx V hV
      have hF := fun (V : World) (hV : PoolAt V p bt bh R H) => Free.calls p bt bh R H x.f0 hwx V hV
      have hsy := HSY.out x.f0
      obtain ⟨hsu, hsl⟩ := hsy
      generalize totOf x.f0 (H.map toP) = t at *
      generalize (unitsOf R x.f0).1 = u1 at *
      generalize (unitsOf R x.f0).2 = u2 at *
      generalize (freeOf R H x.f0).1 = f1 at *
      generalize (freeOf R H x.f0).2 = f2 at *
      have hx0 := HCE.out _ hq
      go_upto_region 11 with (fail)
      go_region_held3 (fun V => V.cell? (ad.add (i * 3)) = some (.string x.f0)) (first | exact HCE.out _ hq | exact HCE.out _ (below_drew1 hq)) (first
        | (go_at_call 15; first | (refine (hLs _ hP).mono ?_; rintro e3 w3 ⟨v3, rfl, hR3, hB3⟩; have q9 := below_go hq hq.size hB3; have p9 := hP.below hB3; clear hq hP; have hq := q9; have hP := p9; clear q9 p9; obtain ⟨A3, k3, e4, hk3, hC3⟩ := Kd.R_reads hR3; rw [List.length_map] at e4 hk3; subst e4; clear hR3) | (refine (hLs _ (hP.below (below_drew1 (Below.refl _ _)))).mono ?_; rintro e3 w3 ⟨v3, rfl, hR3, hB3⟩; have q9 := below_go (below_drew1 hq) (below_drew1 hq).size hB3; have p9 := (hP.below (below_drew1 (Below.refl _ _))).below hB3; clear hq hP; have hq := q9; have hP := p9; clear q9 p9; obtain ⟨A3, k3, e4, hk3, hC3⟩ := Kd.R_reads hR3; rw [List.length_map] at e4 hk3; subst e4; clear hR3))
        | (go_at_call 20; refine (hT _ _ _ hC3 hk3).mono ?_; rintro e5 w5 ⟨rfl, hB5⟩; have q9 := below_go hq hq.size hB5; have p9 := hP.below hB5; clear hq hP; have hq := q9; have hP := p9; clear q9 p9))
      have y0 := HCE.out _ hq
      clear hx0 hLs hT
      go_upto_region 14 with (first
        | (go_at_call 21; refine (hU _ hP).mono ?_; rintro e6 w6 ⟨rfl, hB6⟩; have q9 := below_go hq hq.size hB6; have p9 := hP.below hB6; clear hq hP y0; have hq := q9; have hP := p9; clear q9 p9; have y0 := HCE.out _ hq)
        | (go_at_call 22; refine (hF _ hP).mono ?_; rintro e7 w7 ⟨rfl, hB7⟩; have q9 := below_go hq hq.size hB7; have p9 := hP.below hB7; clear hq hP y0; have hq := q9; have hP := p9; clear q9 p9))
      clear hU hF
      obtain ⟨tn, ts, tx⟩ := t
      dsimp only at hsu hsl
      by_cases hu : u2 = 0
      · obtain ⟨e1, e2, e3, e4, e5⟩ := hsu hu
        subst hu e2 e3
        have hwr : wrap64 (u1 - f1) = tn := by rw [← e1]; exact wrap64_id (by omega) (by omega)
        have t1 : (tn != tn) = false := bne_self_eq_false _
        clear hsu hsl e1
        go_wp2
        go_roundg (l.length - (i + 1))
        case measure => omega
        case rel => exact ⟨i + 1, by omega, Nat.le_refl _, by go_num, hP, hq⟩
      · obtain ⟨e1, e2, e3⟩ := hsl hu
        subst e1
        have t1 : (u2 == 0) = false := beq_eq_false_iff_ne.mpr hu
        have t2 : (u2 != 0) = true := by unfold bne; rw [t1]; rfl
        have t3 : decide (tx > 1) = false := decide_eq_false (by omega)
        have t4 : decide (1 < tx) = false := decide_eq_false (by omega)
        clear hsu hsl
        by_cases hx : tx = 1
        · have hts := e3 hx
          subst hx
          have t5 : decide (ts > 0) = false := decide_eq_false (by omega)
          have t6 : decide (0 < ts) = false := decide_eq_false (by omega)
          go_wp2
          go_roundg (l.length - (i + 1))
          case measure => omega
          case rel => exact ⟨i + 1, by omega, Nat.le_refl _, by go_num, hP, hq⟩
        · have t5 : (tx == 1) = false := beq_eq_false_iff_ne.mpr hx
          go_wp2
          go_roundg (l.length - (i + 1))
          case measure => omega
          case rel => exact ⟨i + 1, by omega, Nat.le_refl _, by go_num, hP, hq⟩
    · have b2 : decide ((i : Int) < (l.length : Int)) = false := decide_eq_false (by omega)
      go_wp2_with (go_at_call 8; refine (hk _).mono ?_; rintro e9 w9 ⟨rfl, b9⟩)
      go_ret
      exact ⟨rfl, below_go hq hq.size b9⟩
end Go.Proofs.Ytgdnljhndjlefaa.QNeedFits
