/- All of some needs, or nothing. No conditions beyond those that each theorem names. -/
import Derived.Test.YtgdnljhndjlefaaQNeedFitsPoolMay
namespace Go.Proofs.Ytgdnljhndjlefaa.QNeedFits
open Go.RowKit Go.Proofs.Ytgdnljhndjlefaa.PNeedFits Go.Proofs.YtgdnljhndjlefaaW.PrintWords Go.Proofs.YtgdnljhndjlefaaW.PrintLast Go.Proofs.YtgdnljhndjlefaaW.PrintMore Go.Proofs.Ytgdnljhndjlefaa.MMaps
set_option linter.unusedVariables false
set_option linter.unusedSimpArgs false
set_option maxRecDepth 100000
theorem takes_take (o : Int) (l : List Nd) (H : List Hd) (i : Nat) (h : i < l.length) : takes o (l.take (i + 1)) H = putH (heldAs o l[i]) (takes o (l.take i) H) := by
  unfold takes
  rw [List.take_succ_eq_append_getElem h, List.foldl_append]; rfl
theorem takes_mem (o : Int) (x : Hd) : ∀ (l : List Nd) (H : List Hd), x ∈ takes o l H ↔ x ∈ H ∨ ∃ n ∈ l, x = heldAs o n
  | [], H => by simp [takes]
  | n :: r, H => by
    have : takes o (n :: r) H = takes o r (putH (heldAs o n) H) := rfl
    rw [this, takes_mem o x r, putH_mem]
    constructor
    · rintro ((e | e) | ⟨m, hm, e⟩)
      · exact .inr ⟨n, .head _, e⟩
      · exact .inl e
      · exact .inr ⟨m, .tail _ hm, e⟩
    · rintro (e | ⟨m, hm, e⟩)
      · exact .inl (.inr e)
      · rcases List.mem_cons.mp hm with q | q
        · subst q; exact .inl (.inl e)
        · exact .inr ⟨m, q, e⟩
theorem takes_length (o : Int) : ∀ (l : List Nd) (H : List Hd), (takes o l H).length = H.length + l.length
  | [], H => rfl
  | n :: r, H => by
    have : takes o (n :: r) H = takes o r (putH (heldAs o n) H) := rfl
    rw [this, takes_length o r, putH_length, List.length_cons]
    omega
theorem rights_at {R : List Rs} {l : List Nd} (h : rights R [] l = 0) : ∀ (i : Nat), i ≤ l.length → rights R (l.take i) (l.drop i) = 0
  | 0, _ => h
  | i + 1, hi => by
    have h1 := rights_at h i (by omega)
    rw [rights_step R l i (by omega)] at h1
    split at h1
    · exact h1
    · rename_i q; exact absurd h1 q
theorem right1_at {R : List Rs} {l : List Nd} (h : rights R [] l = 0) (i : Nat) (hi : i < l.length) : right1 R (l.take i) l[i] = 0 := by
  have h1 := rights_at h i (by omega)
  rw [rights_step R l i hi] at h1
  split at h1
  · rename_i q; exact q
  · rename_i q; exact absurd h1 q
theorem right1_is {R : List Rs} {pre : List Nd} {n : Nd} (h : right1 R pre n = 0) : (∃ r, findR R n.f0 = some r ∧ okNeed r n = true) ∧ ∀ m ∈ pre, m.f0 ≠ n.f0 := by
  unfold right1 at h
  cases hf : findR R n.f0 with
  | none => rw [hf] at h; cases h
  | some r =>
    rw [hf] at h
    dsimp only at h
    cases ho : okNeed r n with
    | false => rw [ho] at h; cases h
    | true =>
      rw [ho] at h
      cases ha : pre.any (fun m => eqS m.f0 n.f0) with
      | true => rw [ha] at h; cases h
      | false => exact ⟨⟨r, rfl, ho⟩, fun m hm => eqS_false.mp (by have := (List.any_eq_false.mp ha) m hm; simpa using this)⟩
/-- Who takes may: nothing of his is held, and what he takes is right. -/
structure CanTake (R : List Rs) (H : List Hd) (o : Int) (l : List Nd) : Prop where
  none_ : ∀ h ∈ H, h.f0 ≠ o
  ok : rights R [] l = 0
theorem may_can {R : List Rs} {H : List Hd} {o : Int} {l : List Nd} (h : mayOf R H o l = 0) : CanTake R H o l := by
  unfold mayOf at h
  cases ha : H.any (fun h => decide (h.f0 = o)) with
  | true => rw [ha] at h; cases h
  | false =>
    rw [ha, if_neg (by simp)] at h
    refine ⟨fun x hx => by have := (List.any_eq_false.mp ha) x hx; simpa using this, ?_⟩
    by_cases e : rights R [] l = 0
    · exact e
    · rw [if_neg e] at h; exact h
theorem takes_new {R : List Rs} {H : List Hd} {o : Int} {l : List Nd} (h : CanTake R H o l) (i : Nat) (hi : i < l.length) : ∀ x ∈ takes o (l.take i) H, kf x ≠ kf (heldAs o l[i]) := fun x hx e => by
  have e1 : x.f0 = o := congrArg Key.owner e
  have e2 : x.f1 = l[i].f0 := congrArg Key.name e
  rcases (takes_mem o x _ _).mp hx with q | ⟨n, hn, q⟩
  · exact h.none_ x q e1
  · subst q
    exact (right1_is (right1_at h.ok i hi)).2 n hn e2
theorem heldAs_good {R : List Rs} {o : Int} {n : Nd} {r : Rs} (hok : okNeed r n = true) (ho : (Lit.int .i64 o).wf = true) (hn : n.f0.size ≤ maxLen) : wfK (kf (heldAs o n)) ∧ 0 ≤ (heldAs o n).f2 ∧ (heldAs o n).f2 ≤ 1000 ∧ ((heldAs o n).f3 = 0 ∨ (heldAs o n).f3 = 1 ∨ (heldAs o n).f3 = 2) := by
  refine ⟨⟨ho, hn⟩, ?_⟩
  have hm := okNeed_mode hok
  unfold heldAs
  dsimp only
  by_cases e : n.f2 = 0
  · rw [if_pos e]
    unfold okNeed at hok
    split at hok <;> simp [e] at hok
    exact ⟨by omega, by omega, .inl e⟩
  · rw [if_neg e]
    exact ⟨by omega, by omega, hm⟩
theorem takes_good {R : List Rs} {H : List Hd} {o : Int} {l : List Nd} (h : CanTake R H o l) (hg : Good R H) (ho : (Lit.int .i64 o).wf = true) (hw : ∀ n ∈ l, n.f0.size ≤ maxLen) (hl : H.length + l.length ≤ 100000) : ∀ (i : Nat), i ≤ l.length → Good R (takes o (l.take i) H)
  | 0, _ => hg
  | i + 1, hi => by
    have ih := takes_good h hg ho hw hl i (by omega)
    have hn := takes_new h i (by omega)
    rw [takes_take o l H i (by omega)]
    refine ⟨hg.rlen, hg.rwf, hg.rap, putH_sorted _ ih.sorted hn, fun x hx => ?_, ?_⟩
    · rcases (putH_mem _ x _).mp hx with e | e
      · subst e
        obtain ⟨r, _, hok⟩ := (right1_is (right1_at h.ok i (by omega))).1
        exact heldAs_good (R := R) hok ho (hw _ (List.getElem_mem _))
      · exact ih.hwf x e
    · rw [putH_length, takes_length, List.length_take]; omega
theorem PoolAt.held_to {w w' : World} {p bt bh : Nat} {R : List Rs} {H M : List Hd} (h : PoolAt w p bt bh R H) (hg : w.grownBy w' (some bh)) {n : Nat} (hm : MapAt KK w' bh n (fH M)) (hn : n = M.length) (hd : Good R M) : PoolAt w' p bt bh R M :=
  ⟨(hg.block p h.ltp (by simpa using h.neh)).trans h.cell, h.things.kept hg (by simpa using h.ne), hn ▸ hm, h.ne, hd⟩
theorem cell_not_map {w : World} {b : Nat} {es : Array MapEntry} {k : Nat} (h : w.heap[b]? = some (.map es k)) {a : Addr} {v : Value} (hc : w.cell? a = some v) : a.block ≠ b := by
  intro e
  subst e
  unfold World.cell? at hc
  rw [h] at hc
  simp at hc
set_option maxHeartbeats 8000000 in
theorem Take.calls_nil (o : Int) (v : Value) (w : World) : Calls Try.prog 12 #[.pointer none, .int .i64 o, v] w fun e w' => e = .returned (.int .i64 2) ∧ Drawn0 w w' := by
  go_enter Try.func12, Try.ntmps12
  go_wp2_with (go_at_call 30; refine (May.calls_nil o v _).mono ?_; rintro e w1 ⟨rfl, d1⟩)
  go_ret
  exact ⟨rfl, d1⟩
set_option maxHeartbeats 16000000 in
theorem Take.calls (p bt bh : Nat) (R : List Rs) (H : List Hd) (o : Int) (A0 : Option Addr) (c0 : Nat) (l : List Nd) (w : World) (h : PoolAt w p bt bh R H) (hC : Kd.C k52 w A0 l.length l) (hc : l.length ≤ c0) (hw : ∀ n ∈ l, n.f0.size ≤ maxLen) (ho : (Lit.int .i64 o).wf = true) (hl : l.length ≤ 1000000000000000) (hlen : mayOf R H o l = 0 → H.length + l.length ≤ 100000) :
    Calls Try.prog 12 #[.pointer (some ⟨p, 0, none⟩), .int .i64 o, .slice A0 l.length c0] w fun e w' => e = .returned (.int .i64 (mayOf R H o l)) ∧ PoolAt w' p bt bh R (takeOf R H o l) ∧ w.grownBy w' (some bh) := by
  have hM := May.calls p bt bh R H o A0 c0 l w h hC hc hw hl
  obtain ⟨M, hMM⟩ : ∃ M, takeOf R H o l = M := ⟨_, rfl⟩
  rw [hMM]
  have HMM := Aside0.mk hMM
  have HP := Aside0.mk h
  have HC := Aside0.mk hC
  clear h hC hMM
  by_cases hz : mayOf R H o l = 0
  · have hcan := may_can hz
    have hln := hlen hz
    have HG := Aside0.mk (fun (i : Nat) (hi : i ≤ l.length) => takes_good hcan HP.out.good ho hw hln i hi)
    have HN := Aside0.mk (fun (i : Nat) (hi : i < l.length) => takes_new hcan i hi)
    have HX := Aside0.mk (show takes o l H = M by rw [← HMM.out, takeOf, if_pos hz])
    have HOK := Aside0.mk hcan.ok
    rw [hz] at hM ⊢
    clear hcan hz hlen
    go_enter Try.func12, Try.ntmps12
    go_wp2_with (go_at_call 30; refine hM.mono ?_; rintro e w1 ⟨rfl, B1⟩)
    have hmx := HP.out.held.lt
    go_loopg [19] l.length (fun gg v19 wr => ∃ i : Nat, i ≤ l.length ∧ l.length - i ≤ gg ∧ v19 = .int .i64 i ∧ Aside0 (PoolAt wr p bt bh R (takes o (l.take i) H)) ∧ Aside0 (w.grownBy wr (some bh)))
    case atStart => exact ⟨0, Nat.zero_le _, by omega, rfl, ⟨HP.out.below B1⟩, ⟨below_grown B1 _⟩⟩
    case round =>
      obtain ⟨i, hi, hg, rfl, HPR, HGR⟩ := hrel
      by_cases hlt : i < l.length
      · have b2 : decide ((i : Int) < (l.length : Int)) = true := decide_eq_true (by omega)
        have b3 : (i : Int) < (l.length : Int) := by omega
        have hz0 : (0 : Int) ≤ (i : Int) := by omega
        obtain ⟨ad, e, x0, x1, x2⟩ := at_T52 HC.out (i : Int) hz0 b3
        cases e
        have hbk := World.block_lt_of_cell? w _ x0
        have hnm : (ad.add ((i : Int).toNat * 3)).block ≠ bh := by obtain ⟨es, k, hm⟩ := HP.out.held.isMap; exact cell_not_map hm x0
        rw [rdn_at l i hlt, Int.toNat_natCast] at x0 x1 x2
        rw [Int.toNat_natCast] at hbk hnm
        have hwx := hw _ (List.getElem_mem hlt)
        have htt := takes_take o l H i hlt
        have hnw := HN.out i hlt
        have hgd := HG.out (i + 1) (by omega)
        have hok := (right1_is (right1_at HOK.out i hlt)).1
        obtain ⟨x, hx⟩ : ∃ x, l[i] = x := ⟨_, rfl⟩
        rw [hx] at x0 x1 x2 hwx htt hnw hok
        clear hx
        rw [htt] at hgd
        have HTT := Aside0.mk htt
        have HGD := Aside0.mk hgd
        have hblk := HGR.out.block _ hbk (by simpa using hnm)
        replace x0 := (World.cell?_of_block (w := w) hblk).trans x0
        replace x1 := (World.cell?_of_block (w := w) (a := ⟨(ad.add (i * 3)).block, (ad.add (i * 3)).off + 1, none⟩) hblk).trans x1
        replace x2 := (World.cell?_of_block (w := w) (a := ⟨(ad.add (i * 3)).block, (ad.add (i * 3)).off + 2, none⟩) hblk).trans x2
        have hFl : (takes o (l.take i) H).length < maxLen := by rw [takes_length, List.length_take]; unfold maxLen; omega
        have HFS := Aside0.mk (HPR.out.good.sorted)
        have hput := fH_put HFS.out (heldAs o x) hnw
        have hfn : fH (takes o (l.take i) H) ⟨o, x.f0⟩ = none := fH_none (fun z hz => hnw z hz)
        have HFN := Aside0.mk hfn
        clear htt hgd hblk hfn hnw
        generalize takes o (l.take i) H = F at *
        by_cases m0 : x.f2 = 0
        · have n0 : (x.f2 == 0) = true := beq_iff_eq.mpr m0
          have enh : some (nv (heldAs o x)) = some (.agg #[.string x.f0, .int .i64 x.f1, .int .i64 0]) := by unfold heldAs nv; rw [if_pos m0, m0]
          go_upto_region 9 with (fail)
          obtain ⟨V, hV⟩ : ∃ V, V = wr.alloc (.cells #[.string x.f0, .int .i64 x.f1, .int .i64 0] 52 (0, 0)) := ⟨_, rfl⟩
          have hbV : Below wr.heap.size wr V := by rw [hV]; exact below_alloc (Below.refl _ _) _
          have kb : V.heap[wr.heap.size]? = some (.cells #[.string x.f0, .int .i64 x.f1, .int .i64 0] 52 (0, 0)) := by rw [hV]; exact blk_new _ _
          rw [← hV]
          have hPV := HPR.out.below hbV
          have HGV := Aside0.mk (HGR.out.andThen (row' := some bh) (below_grown hbV (some bh)) (fun j hj => .inr hj))
          clear hV x0 x1 x2 hbV n0 m0
          have y0 : V.cell? ⟨wr.heap.size, 0, none⟩ = some (.string x.f0) := blk_cell kb 0
          have y1 : V.cell? ⟨wr.heap.size, 1, none⟩ = some (.int .i64 x.f1) := blk_cell kb 1
          have y2 : V.cell? ⟨wr.heap.size, 2, none⟩ = some (.int .i64 0) := blk_cell kb 2
          have y3 : V.cell? ⟨p, 1, none⟩ = some (.map (some bh)) := blk_cell hPV.cell 1
          have hMV := (hPV.held).below (Drawn0.mk (w := V) (w' := V.drew) ⟨1, rfl⟩).below
          have HPV := Aside0.mk hPV
          clear hPV kb
          go_still_tail 9, (by kernel_rfl)
          change wpList _ _ _ _ _ V.drew
          go_wp2_with (at_mapUpdate; refine wpList_store KK rfl _ _ _ 66 rfl 52 Try.underlying66 bh F.length hMV hFl rfl ⟨o, x.f0⟩ ⟨ho, hwx⟩ (.agg #[.string x.f0, .int .i64 x.f1, .int .i64 0]) rfl rfl (fH (putH (heldAs o x) F)) (hput.1.trans enh) hput.2 ?_; intro w9 hm9 hg9; rw [HFN.out] at hm9; have HM9 := Aside0.mk hm9; have HG9 := Aside0.mk (show V.grownBy w9 (some bh) from ⟨hg9.os, hg9.tape, hg9.output, hg9.size, hg9.block⟩); clear hm9 hg9 hMV hput)
          go_roundg (l.length - (i + 1))
          case measure => omega
          case rel =>
            exact ⟨i + 1, by omega, Nat.le_refl _, by go_num, ⟨by rw [HTT.out]; exact HPV.out.held_to HG9.out HM9.out (putH_length _ _).symm HGD.out⟩, ⟨HGV.out.andThen (row' := some bh) HG9.out (fun j hj => .inr hj)⟩⟩
        · have n0 : (x.f2 == 0) = false := beq_eq_false_iff_ne.mpr m0
          have enh : some (nv (heldAs o x)) = some (.agg #[.string x.f0, .int .i64 0, .int .i64 x.f2]) := by unfold heldAs nv; rw [if_neg m0]
          go_upto_region 9 with (fail)
          obtain ⟨V, hV⟩ : ∃ V, V = wr.alloc (.cells #[.string x.f0, .int .i64 0, .int .i64 x.f2] 52 (0, 0)) := ⟨_, rfl⟩
          have hbV : Below wr.heap.size wr V := by rw [hV]; exact below_alloc (Below.refl _ _) _
          have kb : V.heap[wr.heap.size]? = some (.cells #[.string x.f0, .int .i64 0, .int .i64 x.f2] 52 (0, 0)) := by rw [hV]; exact blk_new _ _
          rw [← hV]
          have hPV := HPR.out.below hbV
          have HGV := Aside0.mk (HGR.out.andThen (row' := some bh) (below_grown hbV (some bh)) (fun j hj => .inr hj))
          clear hV x0 x1 x2 hbV n0 m0
          have y0 : V.cell? ⟨wr.heap.size, 0, none⟩ = some (.string x.f0) := blk_cell kb 0
          have y1 : V.cell? ⟨wr.heap.size, 1, none⟩ = some (.int .i64 0) := blk_cell kb 1
          have y2 : V.cell? ⟨wr.heap.size, 2, none⟩ = some (.int .i64 x.f2) := blk_cell kb 2
          have y3 : V.cell? ⟨p, 1, none⟩ = some (.map (some bh)) := blk_cell hPV.cell 1
          have hMV := (hPV.held).below (Drawn0.mk (w := V) (w' := V.drew) ⟨1, rfl⟩).below
          have HPV := Aside0.mk hPV
          clear hPV kb
          go_still_tail 9, (by kernel_rfl)
          change wpList _ _ _ _ _ V.drew
          go_wp2_with (at_mapUpdate; refine wpList_store KK rfl _ _ _ 66 rfl 52 Try.underlying66 bh F.length hMV hFl rfl ⟨o, x.f0⟩ ⟨ho, hwx⟩ (.agg #[.string x.f0, .int .i64 0, .int .i64 x.f2]) rfl rfl (fH (putH (heldAs o x) F)) (hput.1.trans enh) hput.2 ?_; intro w9 hm9 hg9; rw [HFN.out] at hm9; have HM9 := Aside0.mk hm9; have HG9 := Aside0.mk (show V.grownBy w9 (some bh) from ⟨hg9.os, hg9.tape, hg9.output, hg9.size, hg9.block⟩); clear hm9 hg9 hMV hput)
          go_roundg (l.length - (i + 1))
          case measure => omega
          case rel =>
            exact ⟨i + 1, by omega, Nat.le_refl _, by go_num, ⟨by rw [HTT.out]; exact HPV.out.held_to HG9.out HM9.out (putH_length _ _).symm HGD.out⟩, ⟨HGV.out.andThen (row' := some bh) HG9.out (fun j hj => .inr hj)⟩⟩
      · have b2 : decide ((i : Int) < (l.length : Int)) = false := decide_eq_false (by omega)
        have hP9 := HPR.out
        rw [List.take_of_length_le (by omega), HX.out] at hP9
        go_wp2
        go_ret
        exact ⟨rfl, hP9, HGR.out⟩
  · have n0 : (mayOf R H o l == 0) = false := beq_eq_false_iff_ne.mpr hz
    have HX := Aside0.mk (show H = M by rw [← HMM.out, takeOf, if_neg hz])
    generalize mayOf R H o l = e0 at *
    go_enter Try.func12, Try.ntmps12
    go_wp2_with (go_at_call 30; refine hM.mono ?_; rintro e w1 ⟨rfl, B1⟩)
    go_ret
    exact ⟨rfl, by rw [← HX.out]; exact HP.out.below B1, below_grown B1 _⟩
end Go.Proofs.Ytgdnljhndjlefaa.QNeedFits

/- All that an owner holds is given. No conditions beyond those that each theorem names. -/
namespace Go.Proofs.Ytgdnljhndjlefaa.QNeedFits
open Go.RowKit Go.Proofs.Ytgdnljhndjlefaa.PNeedFits Go.Proofs.YtgdnljhndjlefaaW.PrintWords Go.Proofs.YtgdnljhndjlefaaW.PrintLast Go.Proofs.YtgdnljhndjlefaaW.PrintMore Go.Proofs.Ytgdnljhndjlefaa.MMaps
set_option linter.unusedVariables false
set_option linter.unusedSimpArgs false
set_option maxRecDepth 100000
/-- What is held still, as long as some are to come. -/
noncomputable def restH (o : Int) (H : List Hd) (left : Lit → Bool) : List Hd := H.filter fun h => !decide (h.f0 = o) || left (KK.kl (kf h))
theorem restH_start (o : Int) {H : List Hd} {left : Lit → Bool} (hl : ∀ h ∈ H, left (KK.kl (kf h)) = true) : restH o H left = H := by
  unfold restH
  rw [List.filter_eq_self]
  intro c hc
  rw [hl c hc, Bool.or_true]
theorem restH_end (o : Int) (H : List Hd) {left : Lit → Bool} (hl : ∀ k, left k = false) : restH o H left = giveOf H o := by
  unfold restH giveOf
  exact List.filter_congr (fun c _ => by rw [hl, Bool.or_false])
theorem restH_stays {o : Int} {H : List Hd} (hw : ∀ h ∈ H, wfK (kf h)) (ha : H.Pairwise fun a b => kf a ≠ kf b) (left : Lit → Bool) {x : Hd} (hx : x ∈ H) (hp : x.f0 ≠ o) : restH o H (fun z => left z && !z.sameKey (KK.kl (kf x))) = restH o H left := by
  unfold restH
  refine List.filter_congr (fun c hc => ?_)
  by_cases e : kf c = kf x
  · have := kf_inj ha hx hc e
    subst this
    rw [decide_eq_false hp]; simp
  · dsimp only; rw [KK.other (hw c hc) (hw x hx) e]; simp
theorem restH_struck {o : Int} {H : List Hd} (hw : ∀ h ∈ H, wfK (kf h)) (ha : H.Pairwise fun a b => kf a ≠ kf b) (left : Lit → Bool) {x : Hd} (hx : x ∈ H) (hp : x.f0 = o) : restH o H (fun z => left z && !z.sameKey (KK.kl (kf x))) = (restH o H left).filter (fun h => !isK (kf x) h) := by
  unfold restH
  rw [List.filter_filter]
  refine List.filter_congr (fun c hc => ?_)
  by_cases e : kf c = kf x
  · have := kf_inj ha hx hc e
    subst this
    dsimp only
    rw [decide_eq_true hp, KK.self (hw c hx), isK_iff.mpr rfl]
    simp
  · dsimp only
    rw [KK.other (hw c hc) (hw x hx) e, show isK (kf x) c = false by rw [← Bool.not_eq_true, isK_iff]; exact e]
    simp
theorem less_one {x : Hd} : ∀ {M : List Hd}, (M.Pairwise fun a b => kf a ≠ kf b) → x ∈ M → (M.filter fun h => !isK (kf x) h).length + 1 = M.length
  | [], _, h => by cases h
  | y :: r, ha, h => by
    obtain ⟨h1, h2⟩ := List.pairwise_cons.mp ha
    rcases List.mem_cons.mp h with e | e
    · subst e
      rw [List.filter_cons, if_neg (by rw [isK_iff.mpr rfl]; simp), List.filter_eq_self.mpr]
      · rfl
      · intro z hz
        have : isK (kf x) z = false := by rw [← Bool.not_eq_true, isK_iff]; exact fun q => h1 z hz q.symm
        rw [this]; rfl
    · have q : isK (kf x) y = false := by rw [← Bool.not_eq_true, isK_iff]; exact h1 x e
      rw [List.filter_cons, if_pos (by rw [q]; rfl), List.length_cons, List.length_cons, less_one h2 e]
theorem restH_sort {o : Int} {H : List Hd} (hs : SortH H) (left : Lit → Bool) : SortH (restH o H left) := hs.filter _
theorem restH_mem {o : Int} {H : List Hd} {left : Lit → Bool} {x : Hd} (h : x ∈ restH o H left) : x ∈ H := (List.mem_filter.mp h).1
theorem fH_less {M : List Hd} (hs : SortH M) (x : Hd) : fH (M.filter fun h => !isK (kf x) h) (kf x) = none ∧ ∀ d, d ≠ kf x → fH (M.filter fun h => !isK (kf x) h) d = fH M d := by
  refine ⟨fH_none (fun z hz e => ?_), fun d hd => fH_filter hs _ d (fun z hz e => ?_)⟩
  · have := (List.mem_filter.mp hz).2
    rw [isK_iff.mpr e] at this
    cases this
  · have : isK (kf x) z = false := by rw [← Bool.not_eq_true, isK_iff, e]; exact hd
    rw [this]; rfl
theorem give_good {R : List Rs} {H : List Hd} (h : Good R H) (o : Int) : Good R (giveOf H o) :=
  ⟨h.rlen, h.rwf, h.rap, h.sorted.filter _, fun x hx => h.hwf x (List.mem_filter.mp hx).1, Nat.le_trans (List.length_filter_le _ _) h.hlen⟩
set_option maxHeartbeats 8000000 in
theorem Give.calls_nil (o : Int) (w : World) : Calls Try.prog 55 #[.pointer none, .int .i64 o] w fun e w' => e = .returned (.int .i64 0) ∧ Drawn0 w w' := by
  go_enter Try.func55, Try.ntmps55
  go_wp2
  go_ret
  exact ⟨rfl, Drawn0.refl _⟩
set_option maxHeartbeats 16000000 in
theorem Give.calls (p bt bh : Nat) (R : List Rs) (H : List Hd) (o : Int) (w : World) (h : PoolAt w p bt bh R H) :
    Calls Try.prog 55 #[.pointer (some ⟨p, 0, none⟩), .int .i64 o] w fun e w' => e = .returned (.int .i64 ((H.length : Int) - ((giveOf H o).length : Int))) ∧ PoolAt w' p bt bh R (giveOf H o) ∧ w.grownBy w' (some bh) := by
  have HP := Aside0.mk h
  have HG := Aside0.mk h.good
  have c1 : w.cell? ⟨p, 1, none⟩ = some (.map (some bh)) := blk_cell h.cell 1
  obtain ⟨D0, hown, hsays, hsz⟩ := h.held.own
  have hpb : some p ≠ some bh := by simpa using h.neh
  have HSY := Aside0.mk hsays
  have hst : ∀ h ∈ H, Go.Maps.has D0 (KK.kl (kf h)) = true := fun h hh => by rw [hsays.has_ _ (HG.out.hwf h hh).1, fH_own HG.out.sorted.apart hh]; rfl
  have hbl := h.held.lt
  have hln := HG.out.hlen
  clear h hsays
  go_enter Try.func55, Try.ntmps55
  go_wp2_with (first
    | (at_range; refine wpList_range_own _ rfl _ 66 rfl 79 52 KK.law Try.underlying66 RV bh H.length D0 rfl hown ?_; intro w0 hrg0 hg0 hs0)
    | go_in)
  go_frame
  go_loopg [5] H.length (fun gg v5 wr => ∃ (left : Lit → Bool) (cnt : Nat) (D : DataW Value), v5 = .int .i64 ((H.length : Int) - ((restH o H left).length : Int)) ∧ Aside0 (wr.ranges Try.prog 79 RV bh w.heap.size H.length D left cnt) ∧ Aside0 (Says KK D (fH (restH o H left))) ∧ Aside0 (Go.Maps.size D = (restH o H left).length) ∧ Aside0 (w.grownBy wr (some bh)) ∧ Aside0 (cnt ≤ gg))
  case atStart =>
    refine ⟨_, _, D0, ?_, ⟨hrg0⟩, ⟨?_⟩, ⟨?_⟩, ⟨hg0.but _⟩, ⟨?_⟩⟩
    · rw [restH_start o hst, Int.sub_self]
    · rw [restH_start o hst]; exact HSY.out
    · rw [restH_start o hst]; exact hsz
    · rw [hsz]; exact Nat.le_refl _
  case round =>
    obtain ⟨left, cnt, D, rfl, HRG, HD, HZ, HGR, HCN⟩ := hrel
    have hrg := HRG.out
    clear hown
    have hsays := HD.out
    go_wp2_with (first
      | (at_next; refine next_key KK rfl _ rfl bh w.heap.size H.length D (fH (restH o H left)) hsays left cnt rfl hrg ?_ ?_)
      | go_in)
    · intro _ hl0
      go_wp2
      go_ret
      have e := restH_end o H hl0
      have hs9 := HZ.out
      rw [e] at hs9 hsays
      refine ⟨by rw [← e]; rfl, ⟨(HGR.out.block p HP.out.ltp hpb).trans HP.out.cell, HP.out.things.kept HGR.out (by simpa using HP.out.ne), ⟨D, ?_, hsays, hs9⟩, HP.out.ne, give_good HG.out o⟩, HGR.out⟩
      rw [← hs9]
      exact own_tight hrg.owns
    · intro x v w2 cnt2 hcame hen
      obtain ⟨y, hy, rfl, rfl⟩ := fH_mem hcame.mem
      have hyH := restH_mem hy
      have ekv : KK.kv (kf y) = .agg #[.int .i64 y.f0, .string y.f1] := rfl
      rw [ekv] at hen ⊢
      have HCM := Aside0.mk hcame
      have HY := Aside0.mk hy
      have HYH := Aside0.mk hyH
      have hgw : w.grownBy w2 (some bh) := HGR.out.andThen hcame.grown (fun j hj => by cases hj; exact .inl (Nat.le_refl _))
      have HGW := Aside0.mk hgw
      have hz1 : w2.cell? ⟨p, 1, none⟩ = some (.map (some bh)) := (World.cell?_of_block (w := w) (hgw.block p HP.out.ltp hpb)).trans c1
      have HZ1 := Aside0.mk hz1
      clear hcame hrg HRG ekv hgw hy hyH
      generalize nv y = vy at hen ⊢
      have hM : (restH o H left).length ≤ H.length := List.length_filter_le _ _
      have hw1 : ∀ h ∈ H, wfK (kf h) := fun h hh => (HG.out.hwf h hh).1
      generalize hM2 : (restH o H left).length = m at hM ⊢
      have HM2 := Aside0.mk hM2
      clear hM2
      by_cases hq : y.f0 = o
      · have t1 : (y.f0 == o) = true := beq_iff_eq.mpr hq
        have hlast := less_one (restH_sort HG.out.sorted left).apart HY.out
        rw [← restH_struck hw1 HG.out.sorted.apart left HYH.out hq, HM2.out] at hlast
        have HQ := Aside0.mk hq
        have HLS := Aside0.mk hlast
        clear hq hlast hst
        go_upto_region 8 with (fail)
        obtain ⟨V, hV⟩ : ∃ V, V = w2.alloc (.cells #[.int .i64 y.f0, .string y.f1] 79 (0, 0)) := ⟨_, rfl⟩
        have hbV : Below w2.heap.size w2 V := by rw [hV]; exact below_alloc (Below.refl _ _) _
        have kb : V.heap[w2.heap.size]? = some (.cells #[.int .i64 y.f0, .string y.f1] 79 (0, 0)) := by rw [hV]; exact blk_new _ _
        rw [← hV]
        clear hV
        have y0 : V.cell? ⟨w2.heap.size, 0, none⟩ = some (.int .i64 y.f0) := blk_cell kb 0
        have y1 : V.cell? ⟨w2.heap.size, 1, none⟩ = some (.string y.f1) := blk_cell kb 1
        have y2 : V.cell? ⟨p, 1, none⟩ = some (.map (some bh)) := (hbV.cell (p := ⟨p, 1, none⟩) (World.block_lt_of_cell? _ _ HZ1.out)).trans HZ1.out
        have hrgd : V.drew.ranges Try.prog 79 RV bh w.heap.size H.length D (fun z => left z && !z.sameKey (KK.kl (kf y))) cnt2 := HCM.out.ranges.kept (w' := V.drew) (row := none) ⟨hbV.os, hbV.tape, hbV.output, hbV.size, fun k hk _ => hbV.block k hk⟩ (by simp) (by simp)
        have hkl := KK.key HCM.out.wf
        have HG2 := Aside0.mk (show w.grownBy V (some bh) from HGW.out.andThen (row' := some bh) (below_grown hbV (some bh)) (fun j hj => .inr hj))
        have HZD := Aside0.mk (Go.Maps.size_del (k := KK.kl (kf y)) hsays.tidy)
        have HHS := Aside0.mk (hsays.has_ (kf y) HCM.out.wf)
        have HDL := Aside0.mk (hsays.del (kf y) HCM.out.wf (fH_less (restH_sort HG.out.sorted left) y).1 (fH_less (restH_sort HG.out.sorted left) y).2)
        have HES := Aside0.mk (restH_struck hw1 HG.out.sorted.apart left HYH.out HQ.out)
        clear hbV kb hz1 hsays
        go_still_tail 5, (by kernel_rfl)
        change wpList _ _ _ _ _ V.drew
        go_wp2_with (first
          | (at_delete; refine wpList_delete_ranges _ rfl _ _ 66 79 rfl 52 KK.law Try.underlying66 _ bh w.heap.size H.length D _ cnt2 rfl hrgd _ _ rfl hkl ?_; intro w3 cnt3 hrg3 hle hturn; go_frame)
          | go_in)
        go_roundg cnt3
        case measure => have := HCN.out; have := HCM.out.lt; omega
        case rel =>
          rw [Go.Maps.strike_twice] at hrg3
          refine ⟨_, cnt3, _, ?_, ⟨hrg3⟩, ⟨by rw [HES.out]; exact HDL.out⟩, ⟨?_⟩, ⟨?_⟩, ⟨Nat.le_refl _⟩⟩
          · have := HLS.out
            congr 1
            omega
          · have h1 := HZD.out
            have h2 := HZ.out
            have h3 := HLS.out
            rw [HHS.out, fH_own (restH_sort HG.out.sorted left).apart HY.out, if_pos (by rfl)] at h1
            rw [HM2.out] at h2
            omega
          · have ht := hturn.grown
            exact HG2.out.andThen (row' := some bh) ⟨ht.os, ht.tape, ht.output, ht.size, ht.block⟩ (fun j hj => by cases hj; exact .inr rfl)
      · have t1 : (y.f0 == o) = false := beq_eq_false_iff_ne.mpr hq
        have e := restH_stays hw1 HG.out.sorted.apart left HYH.out hq
        have HE := Aside0.mk e
        clear e hst
        go_wp2
        go_roundg cnt2
        case measure => have := HCN.out; have := HCM.out.lt; omega
        case rel =>
          exact ⟨_, cnt2, D, by rw [HE.out, HM2.out], ⟨HCM.out.ranges.alloc _⟩, ⟨by rw [HE.out]; exact HD.out⟩, ⟨by rw [HE.out]; exact HZ.out⟩, ⟨HGW.out.andThen (row' := some bh) (World.grownBy_alloc w2 _ (some bh)) (fun j hj => .inr hj)⟩, ⟨Nat.le_refl _⟩⟩
end Go.Proofs.Ytgdnljhndjlefaa.QNeedFits
