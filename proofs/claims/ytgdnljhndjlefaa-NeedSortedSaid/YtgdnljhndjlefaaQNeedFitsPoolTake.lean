/- All of some needs, or nothing. No conditions beyond those that each theorem names. -/
import Derived.Test.YtgdnljhndjlefaaQNeedFitsPoolMay
namespace Go.Proofs.Ytgdnljhndjlefaa.QNeedFits
open Go.RowKit Go.Proofs.Ytgdnljhndjlefaa.PNeedFits Go.Proofs.YtgdnljhndjlefaaW.PrintWords Go.Proofs.YtgdnljhndjlefaaW.PrintLast Go.Proofs.YtgdnljhndjlefaaW.PrintMore Go.Proofs.Ytgdnljhndjlefaa.MMaps
set_option linter.unusedVariables false
set_option linter.unusedSimpArgs false
set_option maxRecDepth 100000
theorem takes_take (o : Int) (l : List Nd) (H : List Hd) (i : Nat) (h : i < l.length) : takes o (l.take (i + 1)) H = putH (heldAs o l[i]) (takes o (l.take i) H) := by
  unfold takes
  rw [List.take_succ_eq_append_getElem h, List.foldl_append]; rfl
theorem takes_mem (o : Int) (x : Hd) : ∀ (l : List Nd) (H : List Hd), x ∈ takes o l H ↔ x ∈ H ∨ ∃ n ∈ l, x = heldAs o n
  | [], H => by simp [takes]
  | n :: r, H => by
    have : takes o (n :: r) H = takes o r (putH (heldAs o n) H) := rfl
    rw [this, takes_mem o x r, putH_mem]
    constructor
    · rintro ((e | e) | ⟨m, hm, e⟩)
      · exact .inr ⟨n, .head _, e⟩
      · exact .inl e
      · exact .inr ⟨m, .tail _ hm, e⟩
    · rintro (e | ⟨m, hm, e⟩)
      · exact .inl (.inr e)
      · rcases List.mem_cons.mp hm with q | q
        · subst q; exact .inl (.inl e)
        · exact .inr ⟨m, q, e⟩
theorem takes_length (o : Int) : ∀ (l : List Nd) (H : List Hd), (takes o l H).length = H.length + l.length
  | [], H => rfl
  | n :: r, H => by
    have : takes o (n :: r) H = takes o r (putH (heldAs o n) H) := rfl
    rw [this, takes_length o r, putH_length, List.length_cons]
    omega
theorem rights_at {R : List Rs} {l : List Nd} (h : rights R [] l = 0) : ∀ (i : Nat), i ≤ l.length → rights R (l.take i) (l.drop i) = 0
  | 0, _ => h
  | i + 1, hi => by
    have h1 := rights_at h i (by omega)
    rw [rights_step R l i (by omega)] at h1
    split at h1
    · exact h1
    · rename_i q; exact absurd h1 q
theorem right1_at {R : List Rs} {l : List Nd} (h : rights R [] l = 0) (i : Nat) (hi : i < l.length) : right1 R (l.take i) l[i] = 0 := by
  have h1 := rights_at h i (by omega)
  rw [rights_step R l i hi] at h1
  split at h1
  · rename_i q; exact q
  · rename_i q; exact absurd h1 q
theorem right1_is {R : List Rs} {pre : List Nd} {n : Nd} (h : right1 R pre n = 0) : (∃ r, findR R n.f0 = some r ∧ okNeed r n = true) ∧ ∀ m ∈ pre, m.f0 ≠ n.f0 := by
  unfold right1 at h
  cases hf : findR R n.f0 with
  | none => rw [hf] at h; cases h
  | some r =>
    rw [hf] at h
    dsimp only at h
    cases ho : okNeed r n with
    | false => rw [ho] at h; cases h
    | true =>
      rw [ho] at h
      cases ha : pre.any (fun m => eqS m.f0 n.f0) with
      | true => rw [ha] at h; cases h
      | false => exact ⟨⟨r, rfl, ho⟩, fun m hm => eqS_false.mp (by have := (List.any_eq_false.mp ha) m hm; simpa using this)⟩
/-- Who takes may: nothing of his is held, and what he takes is right. -/
structure CanTake (R : List Rs) (H : List Hd) (o : Int) (l : List Nd) : Prop where
  none_ : ∀ h ∈ H, h.f0 ≠ o
  ok : rights R [] l = 0
theorem may_can {R : List Rs} {H : List Hd} {o : Int} {l : List Nd} (h : mayOf R H o l = 0) : CanTake R H o l := by
  unfold mayOf at h
  cases ha : H.any (fun h => decide (h.f0 = o)) with
  | true => rw [ha] at h; cases h
  | false =>
    rw [ha, if_neg (by simp)] at h
    refine ⟨fun x hx => by have := (List.any_eq_false.mp ha) x hx; simpa using this, ?_⟩
    by_cases e : rights R [] l = 0
    · exact e
    · rw [if_neg e] at h; exact h
theorem takes_new {R : List Rs} {H : List Hd} {o : Int} {l : List Nd} (h : CanTake R H o l) (i : Nat) (hi : i < l.length) : ∀ x ∈ takes o (l.take i) H, kf x ≠ kf (heldAs o l[i]) := fun x hx e => by
  have e1 : x.f0 = o := congrArg Key.owner e
  have e2 : x.f1 = l[i].f0 := congrArg Key.name e
  rcases (takes_mem o x _ _).mp hx with q | ⟨n, hn, q⟩
  · exact h.none_ x q e1
  · subst q
    exact (right1_is (right1_at h.ok i hi)).2 n hn e2
theorem heldAs_good {R : List Rs} {o : Int} {n : Nd} {r : Rs} (hok : okNeed r n = true) (ho : (Lit.int .i64 o).wf = true) (hn : n.f0.size ≤ maxLen) : wfK (kf (heldAs o n)) ∧ 0 ≤ (heldAs o n).f2 ∧ (heldAs o n).f2 ≤ 1000 ∧ ((heldAs o n).f3 = 0 ∨ (heldAs o n).f3 = 1 ∨ (heldAs o n).f3 = 2) := by
  refine ⟨⟨ho, hn⟩, ?_⟩
  have hm := okNeed_mode hok
  unfold heldAs
  dsimp only
  by_cases e : n.f2 = 0
  · rw [if_pos e]
    unfold okNeed at hok
    split at hok <;> simp [e] at hok
    exact ⟨by omega, by omega, .inl e⟩
  · rw [if_neg e]
    exact ⟨by omega, by omega, hm⟩
theorem takes_good {R : List Rs} {H : List Hd} {o : Int} {l : List Nd} (h : CanTake R H o l) (hg : Good R H) (ho : (Lit.int .i64 o).wf = true) (hw : ∀ n ∈ l, n.f0.size ≤ maxLen) (hl : H.length + l.length ≤ 100000) : ∀ (i : Nat), i ≤ l.length → Good R (takes o (l.take i) H)
  | 0, _ => hg
  | i + 1, hi => by
    have ih := takes_good h hg ho hw hl i (by omega)
    have hn := takes_new h i (by omega)
    rw [takes_take o l H i (by omega)]
    refine ⟨hg.rlen, hg.rwf, hg.rap, putH_sorted _ ih.sorted hn, fun x hx => ?_, ?_⟩
    · rcases (putH_mem _ x _).mp hx with e | e
      · subst e
        obtain ⟨r, _, hok⟩ := (right1_is (right1_at h.ok i (by omega))).1
        exact heldAs_good (R := R) hok ho (hw _ (List.getElem_mem _))
      · exact ih.hwf x e
    · rw [putH_length, takes_length, List.length_take]; omega
theorem PoolAt.held_to {w w' : World} {p bt bh : Nat} {R : List Rs} {H M : List Hd} (h : PoolAt w p bt bh R H) (hg : w.grownBy w' (some bh)) {n : Nat} (hm : MapAt KK w' bh n (fH M)) (hn : n = M.length) (hd : Good R M) : PoolAt w' p bt bh R M :=
  ⟨(hg.block p h.ltp (by simpa using h.neh)).trans h.cell, h.things.kept hg (by simpa using h.ne), hn ▸ hm, h.ne, hd⟩
theorem cell_not_map {w : World} {b : Nat} {es : Array MapEntry} {k : Nat} (h : w.heap[b]? = some (.map es k)) {a : Addr} {v : Value} (hc : w.cell? a = some v) : a.block ≠ b := by
  intro e
  subst e
  unfold World.cell? at hc
  rw [h] at hc
  simp at hc
set_option maxHeartbeats 8000000 in
theorem Take.calls_nil (o : Int) (v : Value) (w : World) : Calls Try.prog 12 #[.pointer none, .int .i64 o, v] w fun e w' => e = .returned (.int .i64 2) ∧ Drawn0 w w' := by
  go_enter Try.func12, Try.ntmps12
  go_wp2_with (go_at_call 30; refine (May.calls_nil o v _).mono ?_; rintro e w1 ⟨rfl, d1⟩)
  go_ret
  exact ⟨rfl, d1⟩
set_option maxHeartbeats 16000000 in
theorem Take.calls (p bt bh : Nat) (R : List Rs) (H : List Hd) (o : Int) (A0 : Option Addr) (c0 : Nat) (l : List Nd) (w : World) (h : PoolAt w p bt bh R H) (hC : Kd.C k52 w A0 l.length l) (hc : l.length ≤ c0) (hw : ∀ n ∈ l, n.f0.size ≤ maxLen) (ho : (Lit.int .i64 o).wf = true) (hl : l.length ≤ 1000000000000000) (hlen : mayOf R H o l = 0 → H.length + l.length ≤ 100000) :
    Calls Try.prog 12 #[.pointer (some ⟨p, 0, none⟩), .int .i64 o, .slice A0 l.length c0] w fun e w' => e = .returned (.int .i64 (mayOf R H o l)) ∧ PoolAt w' p bt bh R (takeOf R H o l) ∧ w.grownBy w' (some bh) := by
  have hM := May.calls p bt bh R H o A0 c0 l w h hC hc hw hl
  obtain ⟨M, hMM⟩ : ∃ M, takeOf R H o l = M := ⟨_, rfl⟩
  rw [hMM]
  have HMM := Aside0.mk hMM
  have HP := Aside0.mk h
  have HC := Aside0.mk hC
  clear h hC hMM
  by_cases hz : mayOf R H o l = 0
  · have hcan := may_can hz
    have hln := hlen hz
    have HG := Aside0.mk (fun (i : Nat) (hi : i ≤ l.length) => takes_good hcan HP.out.good ho hw hln i hi)
    have HN := Aside0.mk (fun (i : Nat) (hi : i < l.length) => takes_new hcan i hi)
    have HX := Aside0.mk (show takes o l H = M by rw [← HMM.out, takeOf, if_pos hz])
    have HOK := Aside0.mk hcan.ok
    rw [hz] at hM ⊢
    clear hcan hz hlen
    go_enter Try.func12, Try.ntmps12
    go_wp2_with (go_at_call 30; refine hM.mono ?_; rintro e w1 ⟨rfl, B1⟩)
    have hmx := HP.out.held.lt
    go_loopg [19] l.length (fun gg v19 wr => ∃ i : Nat, i ≤ l.length ∧ l.length - i ≤ gg ∧ v19 = .int .i64 i ∧ Aside0 (PoolAt wr p bt bh R (takes o (l.take i) H)) ∧ Aside0 (w.grownBy wr (some bh)))
    case atStart => exact ⟨0, Nat.zero_le _, by omega, rfl, ⟨HP.out.below B1⟩, ⟨below_grown B1 _⟩⟩
    case round =>
      obtain ⟨i, hi, hg, rfl, HPR, HGR⟩ := hrel
      by_cases hlt : i < l.length
      · have b2 : decide ((i : Int) < (l.length : Int)) = true := decide_eq_true (by omega)
        have b3 : (i : Int) < (l.length : Int) := by omega
        have hz0 : (0 : Int) ≤ (i : Int) := by omega
        obtain ⟨ad, e, x0, x1, x2⟩ := at_T52 HC.out (i : Int) hz0 b3
        cases e
        have hbk := World.block_lt_of_cell? w _ x0
        have hnm : (ad.add ((i : Int).toNat * 3)).block ≠ bh := by obtain ⟨es, k, hm⟩ := HP.out.held.isMap; exact cell_not_map hm x0
        rw [rdn_at l i hlt, Int.toNat_natCast] at x0 x1 x2
        rw [Int.toNat_natCast] at hbk hnm
        have hwx := hw _ (List.getElem_mem hlt)
        have htt := takes_take o l H i hlt
        have hnw := HN.out i hlt
        have hgd := HG.out (i + 1) (by omega)
        have hok := (right1_is (right1_at HOK.out i hlt)).1
        obtain ⟨x, hx⟩ : ∃ x, l[i] = x := ⟨_, rfl⟩
        rw [hx] at x0 x1 x2 hwx htt hnw hok
        clear hx
        rw [htt] at hgd
        have HTT := Aside0.mk htt
        have HGD := Aside0.mk hgd
        have hblk := HGR.out.block _ hbk (by simpa using hnm)
        replace x0 := (World.cell?_of_block (w := w) hblk).trans x0
        replace x1 := (World.cell?_of_block (w := w) (a := ⟨(ad.add (i * 3)).block, (ad.add (i * 3)).off + 1, none⟩) hblk).trans x1
        replace x2 := (World.cell?_of_block (w := w) (a := ⟨(ad.add (i * 3)).block, (ad.add (i * 3)).off + 2, none⟩) hblk).trans x2
        have hFl : (takes o (l.take i) H).length < maxLen := by rw [takes_length, List.length_take]; unfold maxLen; omega
        have HFS := Aside0.mk (HPR.out.good.sorted)
        have hput := fH_put HFS.out (heldAs o x) hnw
        have hfn : fH (takes o (l.take i) H) ⟨o, x.f0⟩ = none := fH_none (fun z hz => hnw z hz)
        have HFN := Aside0.mk hfn
        clear htt hgd hblk hfn hnw
        generalize takes o (l.take i) H = F at *
        by_cases m0 : x.f2 = 0
        · have n0 : (x.f2 == 0) = true := beq_iff_eq.mpr m0
          have enh : some (nv (heldAs o x)) = some (.agg #[.string x.f0, .int .i64 x.f1, .int .i64 0]) := by unfold heldAs nv; rw [if_pos m0, m0]
          go_upto_region 9 with (fail)
          obtain ⟨V, hV⟩ : ∃ V, V = wr.alloc (.cells #[.string x.f0, .int .i64 x.f1, .int .i64 0] 52 (0, 0)) := ⟨_, rfl⟩
          have hbV : Below wr.heap.size wr V := by rw [hV]; exact below_alloc (Below.refl _ _) _
          have kb : V.heap[wr.heap.size]? = some (.cells #[.string x.f0, .int .i64 x.f1, .int .i64 0] 52 (0, 0)) := by rw [hV]; exact blk_new _ _
          rw [← hV]
          have hPV := HPR.out.below hbV
          have HGV := Aside0.mk (HGR.out.andThen (row' := some bh) (below_grown hbV (some bh)) (fun j hj => .inr hj))
          clear hV x0 x1 x2 hbV n0 m0
          have y0 : V.cell? ⟨wr.heap.size, 0, none⟩ = some (.string x.f0) := blk_cell kb 0
          have y1 : V.cell? ⟨wr.heap.size, 1, none⟩ = some (.int .i64 x.f1) := blk_cell kb 1
          have y2 : V.cell? ⟨wr.heap.size, 2, none⟩ = some (.int .i64 0) := blk_cell kb 2
          have y3 : V.cell? ⟨p, 1, none⟩ = some (.map (some bh)) := blk_cell hPV.cell 1
          have hMV := (hPV.held).below (Drawn0.mk (w := V) (w' := V.drew) ⟨1, rfl⟩).below
          have HPV := Aside0.mk hPV
          clear hPV kb
          go_still_tail 9, (by kernel_rfl)
          change wpList _ _ _ _ _ V.drew
          go_wp2_with (at_mapUpdate; refine wpList_store KK rfl _ _ _ 66 rfl 52 Try.underlying66 bh F.length hMV hFl rfl ⟨o, x.f0⟩ ⟨ho, hwx⟩ (.agg #[.string x.f0, .int .i64 x.f1, .int .i64 0]) rfl rfl (fH (putH (heldAs o x) F)) (hput.1.trans enh) hput.2 ?_; intro w9 hm9 hg9; rw [HFN.out] at hm9; have HM9 := Aside0.mk hm9; have HG9 := Aside0.mk (show V.grownBy w9 (some bh) from ⟨hg9.os, hg9.tape, hg9.output, hg9.size, hg9.block⟩); clear hm9 hg9 hMV hput)
          go_roundg (l.length - (i + 1))
          case measure => omega
          case rel =>
            exact ⟨i + 1, by omega, Nat.le_refl _, by go_num, ⟨by rw [HTT.out]; exact HPV.out.held_to HG9.out HM9.out (putH_length _ _).symm HGD.out⟩, ⟨HGV.out.andThen (row' := some bh) HG9.out (fun j hj => .inr hj)⟩⟩
        · have n0 : (x.f2 == 0) = false := beq_eq_false_iff_ne.mpr m0
          have enh : some (nv (heldAs o x)) = some (.agg #[.string x.f0, .int .i64 0, .int .i64 x.f2]) := by unfold heldAs nv; rw [if_neg m0]
          go_upto_region 9 with (fail)
          obtain ⟨V, hV⟩ : ∃ V, V = wr.alloc (.cells #[.string x.f0, .int .i64 0, .int .i64 x.f2] 52 (0, 0)) := ⟨_, rfl⟩
          have hbV : Below wr.heap.size wr V := by rw [hV]; exact below_alloc (Below.refl _ _) _
          have kb : V.heap[wr.heap.size]? = some (.cells #[.string x.f0, .int .i64 0, .int .i64 x.f2] 52 (0, 0)) := by rw [hV]; exact blk_new _ _
          rw [← hV]
          have hPV := HPR.out.below hbV
          have HGV := Aside0.mk (HGR.out.andThen (row' := some bh) (below_grown hbV (some bh)) (fun j hj => .inr hj))
          clear hV x0 x1 x2 hbV n0 m0
          have y0 : V.cell? ⟨wr.heap.size, 0, none⟩ = some (.string x.f0) := blk_cell kb 0
          have y1 : V.cell? ⟨wr.heap.size, 1, none⟩ = some (.int .i64 0) := blk_cell kb 1
          have y2 : V.cell? ⟨wr.heap.size, 2, none⟩ = some (.int .i64 x.f2) := blk_cell kb 2
          have y3 : V.cell? ⟨p, 1, none⟩ = some (.map (some bh)) := blk_cell hPV.cell 1
          have hMV := (hPV.held).below (Drawn0.mk (w := V) (w' := V.drew) ⟨1, rfl⟩).below
          have HPV := Aside0.mk hPV
          clear hPV kb
          go_still_tail 9, (by kernel_rfl)
          change wpList _ _ _ _ _ V.drew
          go_wp2_with (at_mapUpdate; refine wpList_store KK rfl _ _ _ 66 rfl 52 Try.underlying66 bh F.length hMV hFl rfl ⟨o, x.f0⟩ ⟨ho, hwx⟩ (.agg #[.string x.f0, .int .i64 0, .int .i64 x.f2]) rfl rfl (fH (putH (heldAs o x) F)) (hput.1.trans enh) hput.2 ?_; intro w9 hm9 hg9; rw [HFN.out] at hm9; have HM9 := Aside0.mk hm9; have HG9 := Aside0.mk (show V.grownBy w9 (some bh) from ⟨hg9.os, hg9.tape, hg9.output, hg9.size, hg9.block⟩); clear hm9 hg9 hMV hput)
          go_roundg (l.length - (i + 1))
          case measure => omega
          case rel =>
            exact ⟨i + 1, by omega, Nat.le_refl _, by go_num, ⟨by rw [HTT.out]; exact HPV.out.held_to HG9.out HM9.out (putH_length _ _).symm HGD.out⟩, ⟨HGV.out.andThen (row' := some bh) HG9.out (fun j hj => .inr hj)⟩⟩
      · have b2 : decide ((i : Int) < (l.length : Int)) = false := decide_eq_false (by omega)
        have hP9 := HPR.out
        rw [List.take_of_length_le (by omega), HX.out] at hP9
        go_wp2
        go_ret
        exact ⟨rfl, hP9, HGR.out⟩
  · have n0 : (mayOf R H o l == 0) = false := beq_eq_false_iff_ne.mpr hz
    have HX := Aside0.mk (show H = M by rw [← HMM.out, takeOf, if_neg hz])
    generalize mayOf R H o l = e0 at *
    go_enter Try.func12, Try.ntmps12
    go_wp2_with (go_at_call 30; refine hM.mono ?_; rintro e w1 ⟨rfl, B1⟩)
    go_ret
    exact ⟨rfl, by rw [← HX.out]; exact HP.out.below B1, below_grown B1 _⟩
end Go.Proofs.Ytgdnljhndjlefaa.QNeedFits
