/- A store of conditions: another one with the same. No conditions beyond those that each theorem names. -/
import Derived.Test.YthneeibphelofaaQCondPlaysCondRefAdd
import Derived.Laws.CopyRow
namespace Go.Proofs.Ythneeibphelofaa.QCondPlays
open Go.RowKit Go.Proofs.Ythneeibphelofaa.PCondPlays Go.Proofs.YthneeibphelofaaW.PrintWords Go.Proofs.YthneeibphelofaaW.PrintLast Go.Proofs.YthneeibphelofaaW.PrintMore
set_option linter.unusedVariables false
set_option linter.unusedSimpArgs false
theorem run_copy2 {P : Program} (w : World) (dT sT ty elem : TypeId) (g dLen dCap : Nat) (a : Addr) (sLen sCap n : Nat) (cur : Array Value) (t : TypeId) (cs : List Value)
    (hu : P.underlying dT = some (.slice elem)) (hs : (P.info? elem).map (·.size) = some 2)
    (hg : w.heap[g]? = some (.cells cur t (0, 0))) (hn : n = Nat.min sLen dLen) (hcs : cs.length = n * 2)
    (hsrc : ∀ j v, cs[j]? = some v → w.cell? (a.add j) = some v) (hfit : cs.length ≤ cur.size) (h1 : ∀ v ∈ cs, v.oneCell' = true) :
    (Builtin.copy_ #[dT, sT] ty #[.slice (some ⟨g, 0, none⟩) dLen dCap, .slice (some a) sLen sCap]).run P w =
      .ok (goInt n) (w.setRow g (cs ++ cur.toList.drop cs.length).toArray) := by
  have hl := run_loadCells_list (P := P) w a cs hsrc
  have hst := run_storeCells_at P g 0 t cs 0 cur w hg (by simpa using hfit) h1
  cases hq : P.info? elem with
  | none => simp [hq] at hs
  | some i =>
    have hi : i.size = 2 := by simpa [hq] using hs
    rw [hcs] at hl
    simp [Builtin.copy_, run_underlying hu, Builtin.lenOf, Builtin.firstCells, sizeOf, typeInfo, hq, hi, ← hn, hl, hst]
def flatC (L : List C) : List Value := (List.range (L.length * 2)).map fun t => (encC L[t / 2]!)[t % 2]!
theorem flatC_len (L : List C) : (flatC L).length = L.length * 2 := by simp [flatC]
theorem flatC_at (L : List C) (t : Nat) (h : t < L.length * 2) : (flatC L)[t]? = some ((encC L[t / 2]!)[t % 2]!) := by
  unfold flatC
  rw [List.getElem?_map, List.getElem?_range h]; rfl
theorem flatC_one (L : List C) : ∀ v ∈ flatC L, v.oneCell' = true := by
  intro v hv
  unfold flatC at hv
  obtain ⟨t, ht, rfl⟩ := List.mem_map.mp hv
  have : t % 2 = 0 ∨ t % 2 = 1 := by omega
  rcases this with z | z <;> rw [z] <;> rfl
/-- The cells of a row that is read. -/
theorem reads_flat {w : World} {ad : Addr} {L : List C} (h : Kd.C k29 w (some ad) L.length L) : ∀ j v, (flatC L)[j]? = some v → w.cell? (ad.add j) = some v := by
  intro j v hv
  have hj : j < L.length * 2 := by rw [← flatC_len]; exact (List.getElem?_eq_some_iff.mp hv).1
  rw [flatC_at L j hj] at hv
  have hq : j / 2 < L.length := by omega
  obtain ⟨ad', e, x0, x1⟩ := at_T29 h ((j / 2 : Nat) : Int) (by omega) (by omega)
  cases e
  rw [rd_at L (j / 2) hq, Int.toNat_natCast] at x0 x1
  rw [getElem!_pos L (j / 2) hq] at hv
  have hm : j % 2 = 0 ∨ j % 2 = 1 := by omega
  rcases hm with z | z
  · rw [z] at hv
    rw [← Option.some.inj hv, show ad.add j = ad.add (j / 2 * 2) by congr 1; omega, x0]; rfl
  · rw [z] at hv
    rw [← Option.some.inj hv, show ad.add j = ad.add (j / 2 * 2 + 1) by congr 1; omega, add_field _ _ 1 (by omega), x1]; rfl
/-- What copy leaves, between rows of one length. -/
theorem copy_is {w : World} {base : Nat} {ok : Nat → Prop} {v : Value} {Z L : List C} {A : Option Addr} {c : Nat} (ty : TypeId) (hR : k29.R 29 w base ok v Z) (hZ : Z.length = L.length) (hC : Kd.C k29 w A L.length L) :
    ∃ w', (Builtin.copy_ #[22, 22] ty #[v, .slice A L.length c]).run Try.prog w = .ok (goInt L.length) w' ∧ k29.R 29 w' base ok v L ∧ w.grownBy w' v.ownBlock := by
  have hu := Try.underlying22
  have hs : (Try.prog.info? 29).map (·.size) = some 2 := by kernel_rfl
  by_cases e : L = []
  · subst e
    obtain rfl : Z = [] := List.length_eq_zero_iff.mp hZ
    refine ⟨w, ?_, hR, ⟨rfl, rfl, rfl, Nat.le_refl _, fun _ _ _ => rfl⟩⟩
    cases hq : Try.prog.info? 29 with
    | none => simp [hq] at hs
    | some i =>
      have hl : ∀ (x : Addr), (loadCells x 0).run Try.prog w = .ok #[] w := fun x => by simpa using run_loadCells_list (P := Try.prog) w x [] (by simp)
      rcases row_open hR with ⟨rfl, _⟩ | ⟨g, cap, cur, rfl, _⟩ <;> cases A <;> simp [Builtin.copy_, run_underlying hu, Builtin.lenOf, Builtin.firstCells, sizeOf, typeInfo, hq, storeCells, hl]
  · have hp : 0 < L.length := List.length_pos_iff.mpr e
    rcases row_open hR with ⟨rfl, rfl⟩ | ⟨g, cap, cur, rfl, hb, ho, hg, hsz, h1, h2, hc⟩
    · simp at hZ; omega
    obtain ⟨ad, rfl, _⟩ := hC.2.2 hp
    have hfit : (flatC L).length ≤ cur.size := by rw [flatC_len, hsz]; omega
    rw [hZ]
    refine ⟨_, run_copy2 w 22 22 ty 29 g L.length cap ad L.length c L.length cur 29 (flatC L) hu hs hg (by simp) (flatC_len L) (reads_flat hC) hfit (flatC_one L), ?_, ?_⟩
    · refine row_of (setRow_heap w g cur _ _ _ hg) ?_ (by omega) h2 (fun t ht => ?_) hb ho
      · simp only [List.size_toArray, List.length_append, List.length_drop, Array.length_toList]
        omega
      · simp only [List.getElem?_toArray]
        rw [List.getElem?_append_left (by rw [flatC_len]; exact ht), flatC_at L t ht]
    · exact ⟨rfl, rfl, rfl, by simp, fun k hk hne => setRow_other w g k _ (fun e => hne (by rw [e]; rfl))⟩
theorem addsIs {L : List C} : ∀ (i : Nat), i ≤ L.length → Sorted L → (L.take i).foldl (fun M c => addL c M) [] = L.take i := by
  intro i
  induction i with
  | zero => intro _ _; simp
  | succ i ih =>
    intro h hs
    have hlt : i < L.length := h
    rw [List.take_succ_eq_append_getElem hlt, List.foldl_append, ih (by omega) hs]
    show addL L[i] (L.take i) = _
    have hn : L[i] ∉ L.take i := by
      intro hm
      obtain ⟨j, hj, e⟩ := List.getElem_of_mem hm
      rw [List.getElem_take] at e
      have hj' : j < i := by rw [List.length_take] at hj; omega
      exact (List.pairwise_iff_getElem.mp hs.nodup j i (by omega) hlt hj') e
    unfold addL
    rw [if_neg hn]
    have := ins_out L[i] [] (L.take i) (fun x hx => by
      obtain ⟨j, hj, e⟩ := List.getElem_of_mem hx
      rw [List.getElem_take] at e
      have hj' : j < i := by rw [List.length_take] at hj; omega
      have hlt2 := List.pairwise_iff_getElem.mp hs j i (by omega) hlt hj'
      rw [e] at hlt2
      cases hx : ltC L[i] x with
      | false => rfl
      | true => have := ltC_trans hx hlt2; rw [ltC_irrefl] at this; cases this)
    rw [List.append_nil] at this
    rw [this]; rfl
theorem take_add {L : List C} (i : Nat) (h : i < L.length) (hs : Sorted L) : addL L[i] (L.take i) = L.take (i + 1) := by
  have a := addsIs (i + 1) h hs
  rw [List.take_succ_eq_append_getElem h, List.foldl_append, addsIs i (by omega) hs] at a
  rw [List.take_succ_eq_append_getElem h]
  exact a
set_option maxHeartbeats 8000000 in
set_option maxRecDepth 100000 in
theorem Copy.calls (s b : Nat) (L : List C) (w : World) (h : Held w s b L) (hl : L.length ≤ 1000) : Calls Try.prog 18 #[.pointer (some ⟨s, 0, none⟩)] w fun e w' => ∃ s' b', e = .returned (.pointer (some ⟨s', 0, none⟩)) ∧ w.heap.size ≤ s' ∧ w.heap.size ≤ b' ∧ Held w' s' b' L ∧ Below w.heap.size w w' := by
  have hLen := Len.calls s b L w h
  have hsrt := h.sorted
  have hwf := h.wf
  have HH := Aside0.mk h
  clear h
  go_enter Try.func18, Try.ntmps18
  go_upto_region 4 with (first | (go_at_call 15; refine hLen.mono ?_; rintro e w1 ⟨rfl, d1⟩; have B1 := d1.below; clear d1 hLen) | (refine Kd.R_make k29 (w0 := w) w.heap.size 29 rfl rfl 22 (.tmp 10) (.tmp 10) rfl (L.length : Int) rfl rfl Try.underlying22 (.agg #[.string ⟨#[]⟩, .int .i64 0]) 24 infoC rfl (by decide) (by omega) ⟨⟨#[]⟩, 0⟩ (ok := fun k => w.heap.size ≤ k) (okp := fun _ => False) (k29_mkM _ _ _ ⟨⟨#[]⟩, 0⟩) (fun _ hk => hk.elim) ?aF ?aN ?aL ?aB ?aS ?_; (case aF => exact B1.size); (case aN => omega); (case aL => omega); (case aB => exact B1); (case aS => exact B1.size); intro v1 w2 hr hb hg hat; have HR := Aside0.mk hr; have HB2 := Aside0.mk hb; clear hr hb hg hat B1))
  obtain ⟨A1, k1, e1⟩ := Kd.R_slice HR.out
  rw [List.length_replicate, Int.toNat_natCast] at e1
  subst e1
  have HL := Aside0.mk (List.calls s b L w2 (HH.out.below HB2.out) hl)
  go_upto_region 5 with (first | (go_at_call 12; refine HL.out.mono ?_; rintro e w3 ⟨v2, rfl, R2, B3⟩; obtain ⟨A2, k2, rfl, hk2, hC2⟩ := Kd.R_reads R2; have HR3 := Aside0.mk (Kd.R_below HR.out B3); have HB3 := Aside0.mk (below_go HB2.out HB2.out.size B3); have hcx := copy_is 3 (c := k2) HR3.out (by simp) hC2; clear R2 hC2 B3; obtain ⟨w4, hcp, hr4, hg4⟩ := hcx; have HR4 := Aside0.mk hr4; have HG4 := Aside0.mk hg4; clear hr4 hg4))
  have HB4 := Aside0.mk (show Below w.heap.size w w4 from HB3.out.trans ⟨HG4.out.os, HG4.out.tape, HG4.out.output, HG4.out.size, fun k hk => HG4.out.block k (Nat.lt_of_lt_of_le hk HB3.out.size) (fun e => by have := HR3.out.1 k e.symm; omega)⟩)
  have hNew := New.calls w4
  clear hcp
  go_upto_region 6 with (go_at_call 8; refine hNew.mono ?_; rintro e w5 ⟨s', b', rfl, hs', hb', hh', hB5⟩)
  have HB5 := Aside0.mk (below_go HB4.out HB4.out.size hB5)
  have HH5 := Aside0.mk hh'
  have HR5 := Aside0.mk (Kd.R_below (Kd.R_mono (Kd.R_bound HR4.out) (fun k (hk : _) => (show k < w4.heap.size from hk.2.2.1))) hB5)
  have hwb : w.heap.size ≤ b' := Nat.le_trans HB4.out.size hb'
  have hws : w.heap.size ≤ s' := Nat.le_trans HB4.out.size hs'
  clear hB5 hh' hNew
  go_wp2
  go_loopg [19] L.length (fun gg s19 wr => ∃ i : Nat, i ≤ L.length ∧ L.length - i ≤ gg ∧ s19 = .int .i64 i ∧ Aside0 (Held wr s' b' (L.take i)) ∧ Aside0 (k29.R 29 wr w.heap.size (fun k => k < w4.heap.size) (.slice A1 L.length k1) L) ∧ Aside0 (Below w.heap.size w wr))
  case atStart => exact ⟨0, Nat.zero_le _, by omega, rfl, HH5, HR5, HB5⟩
  case round =>
    obtain ⟨i, hi, hg, rfl, H1, RR, HB⟩ := hrel
    by_cases hlt : i < L.length
    · have b2 : (i : Int) < (L.length : Int) := by omega
      have hz : (0 : Int) ≤ (i : Int) := by omega
      obtain ⟨_, hcc, hC⟩ := Kd.R_reads' RR.out
      obtain ⟨ad, e, x0, x1⟩ := at_T29 hC (i : Int) hz b2
      cases e
      rw [rd_at L i hlt, Int.toNat_natCast] at x0 x1
      have htk := take_add i hlt hsrt
      have hwx := hwf _ (List.getElem_mem hlt)
      obtain ⟨x, hx⟩ : ∃ x, L[i] = x := ⟨_, rfl⟩
      rw [hx] at x0 x1 htk hwx
      have HTK := Aside0.mk htk
      clear hx htk hC
      go_upto_region 9 with (fail)
      obtain ⟨V, hV⟩ : ∃ V, V = wr.alloc (.cells #[.string x.f0, .int .i64 x.f1] 29 (0, 0)) := ⟨_, rfl⟩
      have hbV : Below wr.heap.size wr V := by rw [hV]; exact below_alloc (Below.refl _ _) _
      have kb : V.heap[wr.heap.size]? = some (.cells #[.string x.f0, .int .i64 x.f1] 29 (0, 0)) := by rw [hV]; exact blk_new _ _
      rw [← hV]
      clear hV x0 x1
      have hHV := H1.out.below hbV
      have y0 : V.cell? ⟨wr.heap.size, 0, none⟩ = some (.string x.f0) := blk_cell kb 0
      have y1 : V.cell? ⟨wr.heap.size, 1, none⟩ = some (.int .i64 x.f1) := blk_cell kb 1
      have y2 := hHV.cell0
      have HRV := Aside0.mk (Kd.R_below RR.out hbV)
      have HBV := Aside0.mk (below_go HB.out HB.out.size hbV)
      obtain ⟨D, hown, hI⟩ := hHV.own
      have HHV := Aside0.mk hHV
      have HI := Aside0.mk hI
      have HOW := Aside0.mk hown
      have hkl := kl_key hwx
      have HWX := Aside0.mk hwx
      have hlm : (L.take i).length < maxLen := by unfold maxLen; rw [List.length_take]; omega
      have hpl : plainElem (H := Unit) Try.prog 4 (.bool true) = some (yes, []) := plainElem_bool Try.underlying4 true
      clear hI hHV hbV kb hwx
      go_still_tail 5, (by kernel_rfl)
      change wpList _ _ _ _ _ V.drew
      go_wp2_with (at_mapUpdate; refine wpList_mapUpdate_own _ rfl _ _ _ 49 rfl 29 4 klaw Try.underlying49 _ b' (L.take i).length D rfl hown hlm _ _ _ rfl rfl hkl _ [] hpl ?_; intro w9 hown9 hgrow9)
      have hg9 : V.grownBy w9 (some b') := ⟨hgrow9.os, hgrow9.tape, hgrow9.output, hgrow9.size, hgrow9.block⟩
      have HH9 := Aside0.mk (HHV.out.put x HWX.out HOW.out HI.out hown9 hg9)
      have HG9 := Aside0.mk hg9
      clear hown9 hgrow9 hg9
      go_roundg (L.length - (i + 1))
      case measure => omega
      case rel => exact ⟨i + 1, by omega, Nat.le_refl _, by go_num, ⟨by rw [← HTK.out]; exact HH9.out⟩, ⟨Kd.R_grown HRV.out HG9.out (fun k hk => by simp; omega)⟩, ⟨HBV.out.trans (grown_below HG9.out hwb HBV.out.size)⟩⟩
    · have b2 : ¬ (i : Int) < (L.length : Int) := by omega
      have e : L.take i = L := List.take_of_length_le (by omega)
      have hH := H1.out
      rw [e] at hH
      go_wp2
      go_ret
      exact ⟨s', rfl, hws, b', hwb, hH, HB.out⟩
end Go.Proofs.Ythneeibphelofaa.QCondPlays
