/- Other units of a resource: the program's way. No conditions beyond those that each theorem names. -/
import Derived.Test.YtgepalpcaphbeaaQPoolPlaysPoolRefNew
namespace Go.Proofs.Ytgepalpcaphbeaa.QPoolPlays
open Go.RowKit Go.Proofs.Ytgepalpcaphbeaa.PPoolPlays Go.Proofs.YtgepalpcaphbeaaW.PrintWords Go.Proofs.YtgepalpcaphbeaaW.PrintLast Go.Proofs.YtgepalpcaphbeaaW.PrintMore Go.Proofs.Ytgepalpcaphbeaa.MMaps
set_option linter.unusedVariables false
set_option linter.unusedSimpArgs false
set_option maxRecDepth 100000
def sized (s : ByteArray) (n : Int) (r : Rs) : Rs := if eqS r.f0 s then ⟨r.f0, n, r.f2⟩ else r
theorem sized_name (s : ByteArray) (n : Int) (r : Rs) : (sized s n r).f0 = r.f0 := by unfold sized; split <;> rfl
def setU (R : List Rs) (s : ByteArray) (n : Int) : List Rs := R.map (sized s n)
def resizeE (R : List Rs) (s : ByteArray) (n : Int) : Int := if (unitsOf R s).2 = 0 then (if n < 0 ∨ 1000 < n then 6 else 0) else (unitsOf R s).2
def resizeR (R : List Rs) (s : ByteArray) (n : Int) : List Rs := if resizeE R s n = 0 then setU R s n else R
theorem findR_setU (R : List Rs) (s d : ByteArray) (n : Int) : findR (setU R s n) d = (findR R d).map (sized s n) := by
  unfold findR setU
  rw [List.find?_map]
  congr 1
  have : ((fun r : Rs => eqS r.f0 d) ∘ sized s n) = fun r : Rs => eqS r.f0 d := by funext r; show eqS (sized s n r).f0 d = _; rw [sized_name]
  rw [this]
theorem units_ok {R : List Rs} {s : ByteArray} (h : (unitsOf R s).2 = 0) : ∃ r, findR R s = some r ∧ r.f2 = false ∧ r.f0 = s := by
  unfold unitsOf at h
  cases hf : findR R s with
  | none => rw [hf] at h; cases h
  | some r =>
    rw [hf] at h
    dsimp only at h
    cases hb : r.f2 with
    | true => rw [hb] at h; cases h
    | false => exact ⟨r, rfl, hb, (findR_some hf).2⟩
theorem fT_setU {R : List Rs} {s : ByteArray} {n : Int} (h : (unitsOf R s).2 = 0) : fT (setU R s n) s = some (.iface 69 (.int .i64 n)) ∧ ∀ d, d ≠ s → fT (setU R s n) d = fT R d := by
  obtain ⟨r, hf, h2, h0⟩ := units_ok h
  refine ⟨?_, fun d hd => ?_⟩
  · unfold fT
    rw [findR_setU, hf]
    show some (tv (sized s n r)) = _
    unfold sized tv
    rw [show eqS r.f0 s = true from eqS_iff.mpr h0, if_pos rfl]
    dsimp only
    rw [h2]; rfl
  · unfold fT
    rw [findR_setU]
    cases hd2 : findR R d with
    | none => rfl
    | some x =>
      have := (findR_some hd2).2
      show some (tv (sized s n x)) = some (tv x)
      unfold sized
      rw [show eqS x.f0 s = false from eqS_false.mpr (by rw [this]; exact hd), if_neg (by simp)]
theorem Good.setU {R : List Rs} {H : List Hd} (h : Good R H) (s : ByteArray) {n : Int} (h1 : 0 ≤ n) (h2 : n ≤ 1000) : Good (QPoolPlays.setU R s n) H :=
  ⟨by unfold QPoolPlays.setU; rw [List.length_map]; exact h.rlen, fun x hx => by
    obtain ⟨y, hy, rfl⟩ := List.mem_map.mp hx
    have := h.rwf y hy
    unfold sized
    split
    · exact ⟨this.1, h1, h2⟩
    · exact this, List.pairwise_map.mpr (List.Pairwise.imp (fun {a b} q => by rw [sized_name, sized_name]; exact q) h.rap), h.sorted, h.hwf, h.hlen⟩
theorem resize_good {R : List Rs} {H : List Hd} (h : Good R H) (s : ByteArray) (n : Int) : Good (resizeR R s n) H := by
  unfold resizeR
  split
  · rename_i q
    unfold resizeE at q
    split at q
    · split at q
      · cases q
      · exact h.setU s (by omega) (by omega)
    · rename_i z; exact absurd q z
  · exact h
theorem setU_set {R : List Rs} (ha : R.Pairwise fun a b => a.f0 ≠ b.f0) {s : ByteArray} {n : Int} {i : Nat} (hi : i < R.length) (hs : R[i].f0 = s) : setU R s n = R.set i ⟨R[i].f0, n, R[i].f2⟩ := by
  unfold setU
  refine List.ext_getElem (by simp) (fun j h1 h2 => ?_)
  have hj : j < R.length := by simpa using h1
  rw [List.getElem_map, List.getElem_set]
  by_cases e : i = j
  · subst e
    rw [if_pos rfl]
    unfold sized
    rw [show eqS R[i].f0 s = true from eqS_iff.mpr hs, if_pos rfl]
  · rw [if_neg e]
    unfold sized
    have hne : R[j].f0 ≠ s := fun q => by
      rcases Nat.lt_or_gt_of_ne e with z | z
      · exact List.pairwise_iff_getElem.mp ha i j hi hj z (hs.trans q.symm)
      · exact List.pairwise_iff_getElem.mp ha j i hj hi z (q.trans hs.symm)
    rw [show eqS R[j].f0 s = false from eqS_false.mpr hne, if_neg (by simp)]
set_option maxHeartbeats 16000000 in
theorem Resize.calls (p bt bh : Nat) (R : List Rs) (H : List Hd) (s : ByteArray) (n : Int) (hs : s.size ≤ maxLen) (w : World) (h : PoolAt w p bt bh R H) : Calls Try.prog 25 #[.pointer (some ⟨p, 0, none⟩), .string s, .int .i64 n] w fun e w' => e = .returned (.int .i64 (resizeE R s n)) ∧ PoolAt w' p bt bh (resizeR R s n) H ∧ w.grownBy w' (some bt) := by
  have hU := Units.calls p bt bh R H s hs w h
  obtain ⟨M, hM⟩ : ∃ M, resizeR R s n = M := ⟨_, rfl⟩
  obtain ⟨e0, he⟩ : ∃ e0, resizeE R s n = e0 := ⟨_, rfl⟩
  rw [hM, he]
  have HM := Aside0.mk hM
  have HE := Aside0.mk he
  have HP := Aside0.mk h
  clear hM he h
  by_cases hz : (unitsOf R s).2 = 0
  · have hft := fT_setU (n := n) hz
    have HFT := Aside0.mk (show (fT R s).isSome = true by obtain ⟨r, hf, _⟩ := units_ok hz; unfold fT; rw [hf]; rfl)
    have HE2 := Aside0.mk (show (if n < 0 ∨ 1000 < n then (6 : Int) else 0) = e0 by rw [← HE.out, resizeE, if_pos hz])
    rw [hz] at hU
    clear hz
    by_cases lo : n < 0
    · have t0 : decide (n < 0) = true := decide_eq_true lo
      have e6 : e0 = 6 := by rw [← HE2.out, if_pos (.inl lo)]
      have HMR := Aside0.mk (show R = M by rw [← HM.out, resizeR, HE.out, e6, if_neg (by decide)])
      clear hft lo
      subst e6
      go_enter Try.func25, Try.ntmps25
      go_wp2_with (go_at_call 20; refine hU.mono ?_; rintro e w1 ⟨rfl, B1⟩)
      go_ret
      exact ⟨rfl, by rw [← HMR.out]; exact HP.out.below B1, below_grown B1 _⟩
    · have t0 : decide (n < 0) = false := decide_eq_false lo
      by_cases hi : 1000 < n
      · have t1 : decide (n > 1000) = true := decide_eq_true hi
        have t2 : decide (1000 < n) = true := decide_eq_true hi
        have e6 : e0 = 6 := by rw [← HE2.out, if_pos (.inr hi)]
        have HMR := Aside0.mk (show R = M by rw [← HM.out, resizeR, HE.out, e6, if_neg (by decide)])
        clear hft lo hi
        subst e6
        go_enter Try.func25, Try.ntmps25
        go_wp2_with (go_at_call 20; refine hU.mono ?_; rintro e w1 ⟨rfl, B1⟩)
        go_ret
        exact ⟨rfl, by rw [← HMR.out]; exact HP.out.below B1, below_grown B1 _⟩
      · have t1 : decide (n > 1000) = false := decide_eq_false hi
        have t2 : decide (1000 < n) = false := decide_eq_false hi
        have e6 : e0 = 0 := by rw [← HE2.out, if_neg (by omega)]
        have HMR := Aside0.mk (show setU R s n = M by rw [← HM.out, resizeR, HE.out, e6, if_pos rfl])
        have HGD := Aside0.mk (HP.out.good.setU s (by omega : 0 ≤ n) (by omega))
        have hlm : R.length < maxLen := by have := HP.out.good.rlen; unfold maxLen; omega
        clear lo hi
        subst e6
        go_enter Try.func25, Try.ntmps25
        go_upto_region 6 with (go_at_call 20; refine hU.mono ?_; rintro e w1 ⟨rfl, B1⟩)
        have hP1 := HP.out.below B1
        have z0 : w1.cell? ⟨p, 0, none⟩ = some (.map (some bt)) := blk_cell hP1.cell 0
        have hMT := hP1.things
        have HP1 := Aside0.mk hP1
        clear hP1 hU
        go_wp2_with (at_mapUpdate; refine wpList_store KS rfl _ _ _ 62 rfl 67 Try.underlying62 bt R.length hMT hlm rfl s hs _ rfl rfl (fT (setU R s n)) hft.1 hft.2 ?_; intro w9 hm9 hg9; rw [HFT.out] at hm9; have HM9 := Aside0.mk hm9; have HG9 := Aside0.mk hg9; clear hm9 hg9 hMT hft)
        go_ret
        have hfin := HP1.out.things_to HG9.out HM9.out (by unfold setU; rw [List.length_map]; rfl) HGD.out
        exact ⟨rfl, by rw [← HMR.out]; exact hfin, (below_grown B1 (some bt)).andThen (row' := some bt) HG9.out (fun j hj => .inr hj)⟩
  · have HE2 := Aside0.mk (show (unitsOf R s).2 = e0 by rw [← HE.out, resizeE, if_neg hz])
    have HMR := Aside0.mk (show R = M by rw [← HM.out, resizeR, HE.out, ← HE2.out, if_neg hz])
    have n0 : ((unitsOf R s).2 == 0) = false := beq_eq_false_iff_ne.mpr hz
    generalize (unitsOf R s).2 = v at *
    go_enter Try.func25, Try.ntmps25
    go_wp2_with (go_at_call 20; refine hU.mono ?_; rintro e w1 ⟨rfl, B1⟩)
    go_ret
    exact ⟨by rw [← HE2.out]; rfl, by rw [← HMR.out]; exact HP.out.below B1, below_grown B1 _⟩
end Go.Proofs.Ytgepalpcaphbeaa.QPoolPlays
