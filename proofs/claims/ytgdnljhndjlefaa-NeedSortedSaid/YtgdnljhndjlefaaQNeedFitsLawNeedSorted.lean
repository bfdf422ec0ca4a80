/- The law NeedSorted, walked: for all resources and needs it comes to true. Each theorem names its own conditions. -/
import Derived.Test.YtgdnljhndjlefaaQNeedFitsNeedLaw
import Derived.Test.YtgdnljhndjlefaaQNeedFitsNeedStable
namespace Go.Proofs.Ytgdnljhndjlefaa.QNeedFits
open Go.RowKit Go.Proofs.Ytgdnljhndjlefaa.PNeedFits Go.Proofs.YtgdnljhndjlefaaW.PrintWords Go.Proofs.YtgdnljhndjlefaaW.PrintLast Go.Proofs.YtgdnljhndjlefaaW.PrintMore Go.Proofs.Ytgdnljhndjlefaa.MMaps
set_option linter.unusedVariables false
set_option linter.unusedSimpArgs false
set_option maxRecDepth 100000
/-! ### Needs fit in any order -/
theorem right1_zero {R : List Rs} {pre : List Nd} {n : Nd} {r : Rs} (hf : findR R n.f0 = some r) (ho : okNeed r n = true) (hp : ∀ m ∈ pre, m.f0 ≠ n.f0) : right1 R pre n = 0 := by
  unfold right1
  rw [hf]
  dsimp only
  rw [ho]
  have : pre.any (fun m => eqS m.f0 n.f0) = false := List.any_eq_false.mpr (fun m hm => by rw [eqS_false.mpr (hp m hm)]; simp)
  rw [this]
  rfl
theorem rights_zero {R : List Rs} : ∀ {l pre : List Nd}, (∀ n ∈ l, ∃ r, findR R n.f0 = some r ∧ okNeed r n = true) → (l.Pairwise fun a b => a.f0 ≠ b.f0) → (∀ m ∈ pre, ∀ n ∈ l, m.f0 ≠ n.f0) → rights R pre l = 0
  | [], _, _, _, _ => rfl
  | n :: t, pre, h, ha, hp => by
    obtain ⟨r, hf, ho⟩ := h n (.head _)
    obtain ⟨h1, h2⟩ := List.pairwise_cons.mp ha
    unfold rights
    rw [if_pos (right1_zero hf ho (fun m hm => hp m hm n (.head _)))]
    refine rights_zero (fun x hx => h x (.tail _ hx)) h2 (fun m hm x hx => ?_)
    rcases List.mem_append.mp hm with e | e
    · exact hp m e x (.tail _ hx)
    · rw [List.mem_singleton] at e
      subst e
      exact h1 x hx
theorem rights_perm {R : List Rs} {l m : List Nd} (hp : l.Perm m) (h : rights R [] l = 0) : rights R [] m = 0 :=
  rights_zero (fun n hn => rights_ok h n (hp.mem_iff.mpr hn)) ((hp.pairwise_iff (fun {a b} (z : a.f0 ≠ b.f0) => z.symm)).mp (names_apart h)) (fun x hx => by cases hx)
theorem fits_iff {R : List Rs} {l : List Nd} : fitsOf R l = 0 ↔ rights R [] l = 0 ∧ l.any (busyOf R []) = false := may_zero (show ([] : List Hd).any (fun h => decide (h.f0 = 1)) = false from rfl)
theorem fits_perm1 {R : List Rs} {l m : List Nd} (hp : l.Perm m) (h : fitsOf R l = 0) : fitsOf R m = 0 := by
  rw [fits_iff] at h ⊢
  refine ⟨rights_perm hp h.1, ?_⟩
  rw [List.any_eq_false]
  exact fun n hn => List.any_eq_false.mp h.2 n (hp.mem_iff.mpr hn)
theorem fits_perm {R : List Rs} {l m : List Nd} (hp : l.Perm m) : ((fitsOf R l == 0) == (fitsOf R m == 0)) = true := by
  by_cases h : fitsOf R l = 0
  · rw [h, fits_perm1 hp h]; rfl
  · have h2 : ¬ fitsOf R m = 0 := fun q => h (fits_perm1 hp.symm q)
    rw [beq_eq_false_iff_ne.mpr h, beq_eq_false_iff_ne.mpr h2]; rfl
theorem insL_perm (L : List Nd) : L.Perm (insL L 0 L.length) := by
  obtain ⟨p1, p2, p3⟩ := (ins_perm L 0 L.length (Nat.zero_le _) (Nat.le_refl _)).1
  have e1 : L.toArray.extract 0 L.length = L.toArray := by simp
  have e2 : (Go.Sort.insertionSort ltN L.toArray 0 L.length).extract 0 L.length = Go.Sort.insertionSort ltN L.toArray 0 L.length := by
    have : L.length = (Go.Sort.insertionSort ltN L.toArray 0 L.length).size := by rw [p1]; simp
    conv => lhs; arg 3; rw [this]
    simp
  rw [e1, e2] at p3
  unfold insL
  simpa using p3.symm
theorem insL_sorted (L : List Nd) (i j : Nat) (hij : i < j) (hj : j < (insL L 0 L.length).length) : ltN (insL L 0 L.length)[j] (insL L 0 L.length)[i] = false := by
  have hl := insL_len L 0 L.length (Nat.zero_le _) (Nat.le_refl _)
  have h := (ins_perm L 0 L.length (Nat.zero_le _) (Nat.le_refl _)).2 i j (Nat.zero_le _) hij (by omega)
  have hs : (Go.Sort.insertionSort ltN L.toArray 0 L.length).size = L.length := by unfold insL at hl; simpa using hl
  rw [getElem!_pos _ j (by omega), getElem!_pos _ i (by omega)] at h
  unfold insL
  exact h
theorem not_after {a b : Nd} (h : ltN b a = false) : (Op.bytesLess a.f0.toList b.f0.toList || a.f0.toList == b.f0.toList) = true := by
  unfold ltN at h
  cases h2 : Op.bytesLess a.f0.toList b.f0.toList with
  | true => rfl
  | false => rw [bl_total _ _ h2 h]; simp
theorem rdnd_at' (L : List Nd) (i : Nat) (h : i < L.length) : rd_T52 L (i : Int) = L[i] := by
  unfold rd_T52
  rw [Int.toNat_natCast]
  simp [List.getD, List.getElem?_eq_getElem h]
theorem row_reads {w : World} {base : Nat} {v : Value} {L : List Nd} {ok : Nat → Prop} (h : k52.R 52 w base ok v L) : ∃ A c, v = .slice A L.length c ∧ L.length ≤ c ∧ Kd.C k52 w A L.length L ∧ (A = none → c = 0) := by
  obtain ⟨A, c, e, h1, h2⟩ := Kd.R_reads h
  refine ⟨A, c, e, h1, h2, ?_⟩
  rcases RowAt.of h with ⟨e2, _⟩ | ⟨g, cap, e2, _⟩
  · rw [e] at e2; injection e2 with e3 _ e4; exact fun _ => e4
  · rw [e] at e2; injection e2 with e3; intro q; rw [q] at e3; cases e3
theorem Sorted.of (A : Option Addr) (c : Nat) (F : List Nr) (w : World) (hC : Kd.C k52 w A (F.map toN).length (F.map toN)) (hc : F.length ≤ c) (h20 : F.length ≤ 20) (hn : A = none → c = 0) :
    Calls Try.prog 23 #[.slice A F.length c] w fun e w' => ∃ v, e = .returned v ∧ Kd.R k52 52 w' w.heap.size (fun _ => True) v (insL (ndL F) 0 (ndL F).length) ∧ Below w.heap.size w w' := by
  have := Sorted.calls A c (ndL F) w hC (by rw [ndL_len]; exact hc) (by rw [ndL_len]; exact h20) hn
  rw [ndL_len] at this ⊢
  exact this
set_option maxHeartbeats 32000000 in
theorem sorted_walk (A0 : Option Addr) (c0 : Nat) (l : List Rs) (A1 : Option Addr) (c1 : Nat) (F : List Nr) (w : World) (hl : Kd.C k47 w A0 l.length l) (hlc : l.length ≤ c0) (hlw : ∀ r ∈ l, wfR r) (hll : l.length ≤ 4398046511100)
    (hF : Kd.C k80 w A1 F.length F) (hFc : F.length ≤ c1) (hFw : ∀ n ∈ F, wfN n) (hFl : F.length ≤ 4398046511100) :
    Calls Try.prog 6 #[.slice A0 l.length c0, .slice A1 F.length c1] w fun e w' => e = .returned (.bool true) ∧ Below w.heap.size w w' := by
  have hk := fun (W : World) => known.calls W
  have HF := Aside0.mk hF
  have HL := Aside0.mk hl
  clear hF hl
  rcases more_than l.length 20 with ⟨z1, b1, b2⟩ | ⟨z1, b1, b2⟩
  · go_enter Try.func6, Try.ntmps6
    go_wp2_with (go_at_call 8; refine (hk _).mono ?_; rintro e w1 ⟨rfl, b⟩)
    go_ret
    exact ⟨rfl, b⟩
  rcases more_than F.length 20 with ⟨z2, b3, b4⟩ | ⟨z2, b3, b4⟩
  · go_enter Try.func6, Try.ntmps6
    go_wp2_with (go_at_call 8; refine (hk _).mono ?_; rintro e w1 ⟨rfl, b⟩)
    go_ret
    exact ⟨rfl, b⟩
  have hres := res.calls A0 c0 l w HL.out hlc (by omega)
  have hRl := poolR_len l
  go_enter Try.func6, Try.ntmps6
  go_upto_region 6 with (first
    | (go_at_call 10; refine hres.mono ?_; rintro e w1 ⟨v, rfl, hR1, hB1⟩; obtain ⟨A3, k3, e2, hk3, hC3⟩ := Kd.R_reads hR1; rw [List.length_map] at e2 hk3; subst e2; clear hR1 hres)
    | (go_at_call 9; refine (New.of A3 k3 l w1 hC3 hk3 hlw (by omega)).mono ?_; rintro e w2 ⟨p, bt, bh, rfl, hp, hbt, hbh, hP, hB2⟩; have hq := below_go hB1 hB1.size hB2; clear hC3 hp hbt hbh hB2 hB1))
  clear b1 b2 b3 b4 HL
  generalize poolR l = R at *
  have hN1 := fun (V : World) (hV : Below w.heap.size w V) => needs.calls A1 c1 F V (Kd.C_below HF.out hV) hFc (by omega)
  have hSo := fun (V : World) A c hC hc hn => Sorted.of A c F V hC hc (by omega) hn
  have hF1 := fun (V : World) A c (hV : PoolAt V p bt bh R []) hC hc => Fits.of p bt bh R [] A c F V hV hC hc hFw hFl
  have hpm := insL_perm (ndL F)
  have hfe := fits_perm (R := R) hpm
  have hsr := insL_sorted (ndL F)
  have hln := insL_len (ndL F) 0 (ndL F).length (Nat.zero_le _) (Nat.le_refl _)
  have hms : ∀ n ∈ insL (ndL F) 0 (ndL F).length, n.f0.size ≤ maxLen := fun n hn => toN_wf hFw n (hpm.mem_iff.mpr hn)
  rw [ndL_len] at hln
  obtain ⟨M, hM⟩ : ∃ M, insL (ndL F) 0 (ndL F).length = M := ⟨_, rfl⟩
  simp only [hM] at hSo hfe hsr hms
  rw [ndL_len] at hM
  rw [hM] at hln
  clear hM hpm
  go_upto_region 7 with (first
    | (go_at_call 13; refine (hN1 _ hq).mono ?_; rintro e w3 ⟨v, rfl, hR, hB⟩; obtain ⟨AF, kF, eF, hkF, hCF, hnF⟩ := row_reads hR; rw [List.length_map] at eF hkF; subst eF; have q9 := below_go hq hq.size hB; have p9 := hP.below hB; clear hq hP hR hB; have hq := q9; have hP := p9; clear q9 p9)
    | (go_at_call 23; refine (hSo _ _ _ hCF hkF hnF).mono ?_; rintro e w4 ⟨v, rfl, hR, hB⟩; obtain ⟨AM, kM, eM, hkM, hCM⟩ := Kd.R_reads hR; rw [hln] at eM hkM hCM; subst eM; have q9 := below_go hq hq.size hB; have p9 := hP.below hB; clear hq hP hR hB hCF; have hq := q9; have hP := p9; clear q9 p9))
  have HCM := Aside0.mk hCM
  clear hCM hSo
  go_wp2
  go_loopg [7] F.length (fun gg v7 wr => ∃ j : Nat, v7 = .int .i64 ((j : Int) + 1) ∧ F.length - j ≤ gg ∧ Aside0 (Drawn0 w4 wr))
  case atStart => exact ⟨0, rfl, by omega, ⟨Drawn0.refl _⟩⟩
  case round =>
    obtain ⟨j, rfl, hg, HD⟩ := hrel
    by_cases hlt : j + 1 < F.length
    · have b2 : decide ((j : Int) + 1 < (F.length : Int)) = true := decide_eq_true (by omega)
      obtain ⟨ad, e, x0, _, _⟩ := at_T52 HCM.out (j : Int) (by omega) (by omega)
      obtain ⟨ad', e', y0, _, _⟩ := at_T52 HCM.out ((j + 1 : Nat) : Int) (by omega) (by omega)
      cases e
      cases e'
      rw [rdnd_at' M j (by omega), Int.toNat_natCast] at x0
      rw [rdnd_at' M (j + 1) (by omega), Int.toNat_natCast] at y0
      have hx := World.block_lt_of_cell? w4 _ x0
      have hy := World.block_lt_of_cell? w4 _ y0
      have hso := not_after (hsr j (j + 1) (by omega) (by omega))
      generalize M[j] = a at *
      generalize M[j + 1] = b at *
      replace x0 := (HD.out.below.cell hx).trans x0
      replace y0 := (HD.out.below.cell hy).trans y0
      have hbg : binOp .gtr 9 (.string a.f0) (.string b.f0) = pure (.bool false) := by rw [cmp_Compare_string.gtr, hso]; rfl
      have hgt : (!(Op.bytesLess a.f0.toList b.f0.toList || a.f0.toList == b.f0.toList)) = false := by rw [hso]; rfl
      have hgt2 : (Op.bytesLess a.f0.toList b.f0.toList || a.f0.toList == b.f0.toList) = true := hso
      have hj1 : IntKind.i64.wrap (j : Int) = (j : Int) := by rw [i64_w, wrap64_id (by omega) (by omega)]
      have hj2 : (j : Int) < (F.length : Int) := by omega
      have hj3 : (j : Int) + 1 < (F.length : Int) := by omega
      have hj4 : (0 : Int) ≤ (j : Int) + 1 := by omega
      have hj5 : ((j : Int) + 1).toNat = j + 1 := by omega
      go_wp2
      go_quiet (fail)
      go_wp2
      go_roundg (F.length - (j + 1))
      case measure => omega
      case rel => exact ⟨j + 1, by go_num, Nat.le_refl _, ⟨by first | exact HD.out | exact drawn_trans HD.out ⟨_, rfl⟩⟩⟩
    · have b2 : decide ((j : Int) + 1 < (F.length : Int)) = false := decide_eq_false (by omega)
      have q9 := below_go hq hq.size HD.out.below
      have p9 := hP.below HD.out.below
      have HCX := Aside0.mk (Kd.C_below HCM.out HD.out.below)
      clear hq hP HD HCM
      have hq := q9
      have hP := p9
      clear q9 p9
      have hF2 := fun (V : World) (hV : PoolAt V p bt bh R []) (hC : Kd.C k52 V AM M.length M) => Fits.calls p bt bh R [] AM kM M V hV hC (by omega) hms (by omega)
      simp only [hln] at hF2
      generalize fitsOf R M = f2 at *
      generalize fitsOf R (ndL F) = f1 at *
      have t3 : ((F.length : Int) == (F.length : Int)) = true := beq_self_eq_true _
      go_wp2_with (first
        | (go_at_call 13; refine (hN1 _ hq).mono ?_; rintro e w3 ⟨v, rfl, hR, hB⟩; obtain ⟨AF, kF, eF, hkF, hCF⟩ := Kd.R_reads hR; rw [List.length_map] at eF hkF; subst eF; have q9 := below_go hq hq.size hB; have p9 := hP.below hB; have c9 := Aside0.mk (Kd.C_below HCX.out hB); clear hq hP hR hB HCX; have hq := q9; have hP := p9; have HCX := c9; clear q9 p9 c9)
        | (go_at_call 16; first
          | ((with_reducible refine (hF1 _ _ _ hP hCF hkF).mono ?_); rintro e x ⟨rfl, hB⟩; have q9 := below_go hq hq.size hB; have p9 := hP.below hB; have c9 := Aside0.mk (Kd.C_below HCX.out hB); clear hq hP hB hCF HCX; have hq := q9; have hP := p9; have HCX := c9; clear q9 p9 c9)
          | ((with_reducible refine (hF2 _ hP HCX.out).mono ?_); rintro e x ⟨rfl, hB⟩; have q9 := below_go hq hq.size hB; clear hq hP hB; have hq := q9; clear q9))
        | (go_at_call 8; refine (hk _).mono ?_; rintro e x ⟨rfl, hB⟩; have q9 := below_go hq hq.size hB; clear hq hB; have hq := q9; clear q9))
      go_ret
      exact ⟨rfl, hq⟩
end Go.Proofs.Ytgdnljhndjlefaa.QNeedFits
