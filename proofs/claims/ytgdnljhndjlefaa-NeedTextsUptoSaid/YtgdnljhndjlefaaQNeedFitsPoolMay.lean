/- Whether a need can not be met now. No conditions beyond those that each theorem names. -/
import Derived.Test.YtgdnljhndjlefaaQNeedFitsPoolNew
import Derived.Handy
namespace Go.Proofs.Ytgdnljhndjlefaa.QNeedFits
open Go.RowKit Go.Proofs.Ytgdnljhndjlefaa.PNeedFits Go.Proofs.YtgdnljhndjlefaaW.PrintWords Go.Proofs.YtgdnljhndjlefaaW.PrintLast Go.Proofs.YtgdnljhndjlefaaW.PrintMore Go.Proofs.Ytgdnljhndjlefaa.MMaps
set_option linter.unusedVariables false
set_option linter.unusedSimpArgs false
set_option maxRecDepth 100000
theorem kf_inj {H : List Hd} (ha : H.Pairwise fun a b => kf a ≠ kf b) {x h : Hd} (hx : x ∈ H) (hh : h ∈ H) (e : kf h = kf x) : h = x := by
  have h1 := find_own ha hx
  have h2 := find_own ha hh
  rw [e, h1] at h2
  exact (Option.some.inj h2).symm
/-- Who is behind: who was behind, or who came now. -/
theorem gone {H : List Hd} (ha : H.Pairwise fun a b => kf a ≠ kf b) (hw : ∀ h ∈ H, wfK (kf h)) {left : Lit → Bool} {x h : Hd} (hx : x ∈ H) (hh : h ∈ H) (e : (left (KK.kl (kf h)) && !(KK.kl (kf h)).sameKey (KK.kl (kf x))) = false) : left (KK.kl (kf h)) = false ∨ h = x := by
  by_cases q : kf h = kf x
  · exact .inr (kf_inj ha hx hh q)
  · rw [KK.other (hw h hh) (hw x hx) q] at e
    left
    simpa using e
def goodN (n : Nd) : Prop := n.f0.size ≤ maxLen ∧ (n.f2 = 0 ∨ n.f2 = 1 ∨ n.f2 = 2)
set_option maxHeartbeats 8000000 in
theorem busy.calls (p bt bh : Nat) (R : List Rs) (H : List Hd) (n : Nd) (hn : goodN n) (w : World) (h : PoolAt w p bt bh R H) : Calls Try.prog 47 #[.pointer (some ⟨p, 0, none⟩), .agg #[.string n.f0, .int .i64 n.f1, .int .i64 n.f2]] w fun e w' => e = .returned (.bool (busyOf R H n)) ∧ Below w.heap.size w w' := by
  obtain ⟨r, hr⟩ : ∃ r, busyOf R H n = r := ⟨_, rfl⟩
  rw [hr]
  have HP := Aside0.mk h
  clear h
  go_enter Try.func47, Try.ntmps47
  go_upto_region 1 with (fail)
  obtain ⟨W, hW⟩ : ∃ W, W = w.alloc (.cells #[.string n.f0, .int .i64 n.f1, .int .i64 n.f2] 52 (0, 0)) := ⟨_, rfl⟩
  have hbW : Below w.heap.size w W := by rw [hW]; exact below_alloc (Below.refl _ _) _
  have kb : W.heap[w.heap.size]? = some (.cells #[.string n.f0, .int .i64 n.f1, .int .i64 n.f2] 52 (0, 0)) := by rw [hW]; exact blk_new _ _
  rw [← hW]
  clear hW
  have hPW := HP.out.below hbW
  have HBW := Aside0.mk hbW
  have HKB := Aside0.mk kb
  have y0 : W.cell? ⟨w.heap.size, 0, none⟩ = some (.string n.f0) := blk_cell kb 0
  have y1 : W.cell? ⟨w.heap.size, 1, none⟩ = some (.int .i64 n.f1) := blk_cell kb 1
  have y2 : W.cell? ⟨w.heap.size, 2, none⟩ = some (.int .i64 n.f2) := blk_cell kb 2
  by_cases m0 : n.f2 = 0
  · have hF := Free.calls p bt bh R H n.f0 hn.1 W hPW
    unfold busyOf at hr
    rw [if_pos m0] at hr
    rw [m0] at y2
    generalize (freeOf R H n.f0).1 = u at *
    generalize (freeOf R H n.f0).2 = v at *
    clear kb hbW hPW m0
    go_wp2_with (go_at_call 22; refine hF.mono ?_; rintro e1 w1 ⟨rfl, B1⟩; have z1 : w1.cell? ⟨w.heap.size, 1, none⟩ = some (.int .i64 n.f1) := blk_cell (blk_below HKB.out B1) 1)
    go_ret
    exact ⟨by rw [← hr]; rfl, below_go HBW.out HBW.out.size B1⟩
  · have n0 : (n.f2 == 0) = false := beq_eq_false_iff_ne.mpr m0
    unfold busyOf at hr
    rw [if_neg m0] at hr
    have HR := Aside0.mk hr
    have c1 : W.cell? ⟨p, 1, none⟩ = some (.map (some bh)) := blk_cell hPW.cell 1
    obtain ⟨D0, hown, hsays, hsz⟩ := hPW.held.own
    have HG := Aside0.mk hPW.good
    have HSY := Aside0.mk hsays
    clear hsays hPW hbW kb hr
    go_wp2_with (first
      | (at_range; refine wpList_range_own _ rfl _ 66 rfl 79 52 KK.law Try.underlying66 RV bh H.length D0 rfl hown ?_; intro w0 hrg0 hg0 hs0)
      | go_in)
    go_frame
    go_loopg [] H.length (fun gg wr => ∃ (left : Lit → Bool) (cnt : Nat), Aside0 (wr.ranges Try.prog 79 RV bh W.heap.size H.length D0 left cnt) ∧ Aside0 (Below W.heap.size W wr) ∧ Aside0 (cnt ≤ gg) ∧ Aside0 (∀ h ∈ H, left (KK.kl (kf h)) = false → clash n h = false))
    case atStart =>
      refine ⟨_, _, ⟨hrg0⟩, ⟨below_of_grown hg0⟩, ⟨?_⟩, ⟨fun h hh e => ?_⟩⟩
      · rw [hsz]; exact Nat.le_refl _
      · rw [HSY.out.has_ _ (HG.out.hwf h hh).1, fH_own HG.out.sorted.apart hh] at e
        cases e
    case round =>
      obtain ⟨left, cnt, HRG, HB, HC, HN⟩ := hrel
      have hrg := HRG.out
      clear hown
      have hsays := HSY.out
      go_wp2_with (first
        | (at_next; refine next_key KK rfl _ rfl bh W.heap.size H.length D0 (fH H) hsays left cnt rfl hrg ?_ ?_)
        | go_in)
      · intro _ hl0
        go_wp2
        go_ret
        refine ⟨?_, below_go HBW.out HBW.out.size HB.out⟩
        have e : H.any (clash n) = false := by
          rw [List.any_eq_false]
          exact fun x hx => by rw [HN.out x hx (hl0 _)]; simp
        rw [← HR.out, e]
        rfl
      · intro x v w2 cnt2 hcame hen
        obtain ⟨y, hy, rfl, rfl⟩ := fH_mem hcame.mem
        have ekv : KK.kv (kf y) = .agg #[.int .i64 y.f0, .string y.f1] := rfl
        rw [ekv] at hen ⊢
        have HCM := Aside0.mk hcame
        have HY := Aside0.mk hy
        have hmd := (HG.out.hwf y hy).2.2.2
        clear hcame hsays hrg HRG ekv
        unfold nv at hen
        unfold nv
        have HB2 := Aside0.mk (HB.out.grown HCM.out.grown HB.out.size (fun k e => by cases e; exact Nat.le_refl _))
        have kb2 := blk_below HKB.out HB2.out
        have z0 : w2.cell? ⟨w.heap.size, 0, none⟩ = some (.string n.f0) := blk_cell kb2 0
        have z2 : w2.cell? ⟨w.heap.size, 2, none⟩ = some (.int .i64 n.f2) := blk_cell kb2 2
        have hltw := blk_lt kb2
        clear kb2 y0 y1 y2
        have hcl : clash n y = (eqS y.f1 n.f0 && (decide (y.f3 = 2) || decide (n.f2 = 2))) := rfl
        have HN2 := Aside0.mk (fun (hc : clash n y = false) (h : Hd) (hh : h ∈ H) (e : (left (KK.kl (kf h)) && !(KK.kl (kf h)).sameKey (KK.kl (kf y))) = false) => (show clash n h = false from (gone HG.out.sorted.apart (fun h hh => (HG.out.hwf h hh).1) HY.out hh e).elim (fun q => HN.out h hh q) (fun q => q ▸ hc)))
        cases hq : eqS y.f1 n.f0 with
        | false =>
          rw [hq, Bool.false_and] at hcl
          have HCL := Aside0.mk hcl
          have t1 : (y.f1.toList == n.f0.toList) = false := hq
          clear hcl hmd
          go_wp2
          go_roundg cnt2
          case measure => have := HC.out; have := HCM.out.lt; omega
          case rel =>
            exact ⟨_, cnt2, ⟨HCM.out.ranges.alloc _ |>.alloc _⟩, ⟨below_alloc (below_alloc HB2.out _) _⟩, ⟨Nat.le_refl _⟩, ⟨HN2.out HCL.out⟩⟩
        | true =>
          rw [hq, Bool.true_and] at hcl
          have t1 : (y.f1.toList == n.f0.toList) = true := hq
          have hn12 : n.f2 = 1 ∨ n.f2 = 2 := hn.2.resolve_left m0
          clear n0 m0
          rcases hmd with hm | hm | hm <;> rcases hn12 with h2 | h2 <;> rw [hm, h2] at hcl <;> rw [hm] at hen ⊢ <;> rw [h2] at z2
          all_goals
            have HCL := Aside0.mk hcl
            clear hcl hm h2
            go_wp2
            first
            | (go_roundg cnt2
               case measure => have := HC.out; have := HCM.out.lt; omega
               case rel =>
                 exact ⟨_, cnt2, ⟨HCM.out.ranges.alloc _ |>.alloc _⟩, ⟨below_alloc (below_alloc HB2.out _) _⟩, ⟨Nat.le_refl _⟩, ⟨HN2.out HCL.out⟩⟩)
            | (go_ret
               refine ⟨?_, below_go HBW.out HBW.out.size (below_alloc (below_alloc HB2.out _) _)⟩
               rw [← HR.out, List.any_eq_true.mpr ⟨y, HY.out, HCL.out⟩]; rfl)
end Go.Proofs.Ytgdnljhndjlefaa.QNeedFits

/- Whether an owner may get all of some needs. No conditions beyond those that each theorem names. -/
namespace Go.Proofs.Ytgdnljhndjlefaa.QNeedFits
open Go.RowKit Go.Proofs.Ytgdnljhndjlefaa.PNeedFits Go.Proofs.YtgdnljhndjlefaaW.PrintWords Go.Proofs.YtgdnljhndjlefaaW.PrintLast Go.Proofs.YtgdnljhndjlefaaW.PrintMore Go.Proofs.Ytgdnljhndjlefaa.MMaps
set_option linter.unusedVariables false
set_option linter.unusedSimpArgs false
set_option maxRecDepth 100000
theorem uright.calls (u : Int) (n : Nd) (w : World) : Calls Try.prog 104 #[.int .i64 u, .agg #[.string n.f0, .int .i64 n.f1, .int .i64 n.f2]] w fun e w' => e = .returned (.bool (okNeed ⟨n.f0, u, false⟩ n)) ∧ Below w.heap.size w w' := by
  obtain ⟨r, hr⟩ : ∃ r, okNeed ⟨n.f0, u, false⟩ n = r := ⟨_, rfl⟩
  rw [hr]
  unfold okNeed at hr
  rw [if_neg (by simp)] at hr
  have b2 : decide (n.f1 ≥ 1) = decide (1 ≤ n.f1) := rfl
  by_cases h0 : n.f2 = 0
  · have t0 : (n.f2 == 0) = true := beq_iff_eq.mpr h0
    rw [decide_eq_true h0, Bool.true_and] at hr
    cases h1 : decide (1 ≤ n.f1) <;> cases h2 : decide (n.f1 ≤ 1000) <;> rw [h1, h2] at hr <;> subst hr <;> rw [h1] at b2
    all_goals
      go_enter Try.func104, Try.ntmps104
      go_wp2
      go_ret
      exact ⟨rfl, below_alloc (Below.refl _ _) _⟩
  · have t0 : (n.f2 == 0) = false := beq_eq_false_iff_ne.mpr h0
    rw [decide_eq_false h0, Bool.false_and] at hr
    subst hr
    go_enter Try.func104, Try.ntmps104
    go_wp2
    go_ret
    exact ⟨rfl, below_alloc (Below.refl _ _) _⟩
theorem lright.calls (u : Int) (n : Nd) (w : World) : Calls Try.prog 105 #[.agg #[], .agg #[.string n.f0, .int .i64 n.f1, .int .i64 n.f2]] w fun e w' => e = .returned (.bool (okNeed ⟨n.f0, u, true⟩ n)) ∧ Below w.heap.size w w' := by
  obtain ⟨r, hr⟩ : ∃ r, okNeed ⟨n.f0, u, true⟩ n = r := ⟨_, rfl⟩
  rw [hr]
  unfold okNeed at hr
  rw [if_pos rfl] at hr
  by_cases h0 : n.f2 = 1
  · have t0 : (n.f2 == 1) = true := beq_iff_eq.mpr h0
    rw [decide_eq_true h0, Bool.true_or] at hr
    subst hr
    go_enter Try.func105, Try.ntmps105
    go_wp2
    go_ret
    exact ⟨rfl, below_alloc (below_alloc (Below.refl _ _) _) _⟩
  · have t0 : (n.f2 == 1) = false := beq_eq_false_iff_ne.mpr h0
    rw [decide_eq_false h0, Bool.false_or] at hr
    have t1 : (n.f2 == 2) = r := by rw [← hr]; rfl
    go_enter Try.func105, Try.ntmps105
    go_wp2
    go_ret
    exact ⟨by rw [← t1]; rfl, below_alloc (below_alloc (Below.refl _ _) _) _⟩
theorem rdn_at (L : List Nd) (i : Nat) (h : i < L.length) : rd_T52 L (i : Int) = L[i] := by
  unfold rd_T52
  rw [Int.toNat_natCast]
  simp [List.getD, List.getElem?_eq_getElem h]
set_option maxHeartbeats 4000000 in
theorem index_any (p : Nd → Bool) (pv : Value) (A0 : Option Addr) (c0 : Nat) (l0 : List Nd) (w : World) (hr0 : Kd.C k52 w A0 l0.length l0) (hlen : l0.length ≤ 9223372036854775806)
    (hp : ∀ (W : World) (x : Nd), x ∈ l0 → Below w.heap.size w W → Calls Try.prog 47 #[pv, .agg #[.string x.f0, .int .i64 x.f1, .int .i64 x.f2]] W fun e w' => e = .returned (.bool (p x)) ∧ Below W.heap.size W w') :
    Calls Try.prog 61 #[.slice A0 l0.length c0, .func (.func 47) #[pv] #[]] w fun e w' => (∃ r, e = .returned (.int .i64 r) ∧ decide (0 ≤ r) = l0.any p) ∧ Below w.heap.size w w' := by
  have HR0 := Aside0.mk hr0
  clear hr0
  go_enter Try.func61, Try.ntmps61
  go_wp2
  go_loopg [5, 8] l0.length (fun gg _ s8 wr => ∃ kk : Nat, kk ≤ l0.length ∧ l0.length - kk ≤ gg ∧ s8 = .int .i64 kk ∧ Aside0 (Below w.heap.size w wr) ∧ Aside0 (∀ (j : Nat) (h : j < l0.length), j < kk → p l0[j] = false))
  case atStart => exact ⟨0, Nat.zero_le _, by omega, rfl, ⟨Below.refl _ w⟩, ⟨fun j _ hj => absurd hj (Nat.not_lt_zero _)⟩⟩
  case round =>
    obtain ⟨kk, hkk, hg, rfl, BW, A⟩ := hrel
    by_cases hlt : kk < l0.length
    · have hltz : (kk : Int) < (l0.length : Int) := by omega
      obtain ⟨ad, e, x0, x1, x2⟩ := at_T52 HR0.out (kk : Int) (by omega) hltz
      cases e
      have hblk := World.block_lt_of_cell? w _ x0
      rw [rdn_at l0 kk hlt, Int.toNat_natCast] at x0 x1 x2
      rw [Int.toNat_natCast] at hblk
      replace x0 := (BW.out.cell hblk).trans x0
      replace x1 := (BW.out.cell (p := ⟨(ad.add (kk * 3)).block, (ad.add (kk * 3)).off + 1, none⟩) hblk).trans x1
      replace x2 := (BW.out.cell (p := ⟨(ad.add (kk * 3)).block, (ad.add (kk * 3)).off + 2, none⟩) hblk).trans x2
      have hmem : l0[kk] ∈ l0 := List.getElem_mem _
      have hcall := hp wr l0[kk] hmem BW.out
      clear hp
      obtain ⟨y, hy⟩ : ∃ y, l0[kk] = y := ⟨_, rfl⟩
      rw [hy] at x0 x1 x2 hcall hmem
      have B : Aside0 (l0[kk] = y) := ⟨hy⟩
      have HM := Aside0.mk hmem
      clear hy hmem
      cases hq : p y with
      | true =>
        rw [hq] at hcall
        go_wp2_with (go_at_call 47; refine hcall.mono ?_; rintro e w' ⟨rfl, hb0⟩; have hb' := BW.out.trans (hb0.mono BW.out.size); clear hb0)
        go_ret
        refine ⟨⟨_, rfl, ?_⟩, hb'⟩
        rw [decide_eq_true (by omega), eq_comm, List.any_eq_true]
        exact ⟨y, HM.out, hq⟩
      | false =>
        rw [hq] at hcall
        go_wp2_with (go_at_call 47; refine hcall.mono ?_; rintro e w' ⟨rfl, hb0⟩; have hb' := BW.out.trans (hb0.mono BW.out.size); clear hb0)
        go_roundg (l0.length - (kk + 1))
        case measure => omega
        case rel =>
          refine ⟨kk + 1, by omega, by omega, by go_num, ⟨hb'⟩, ⟨fun j h hj => ?_⟩⟩
          by_cases e : j = kk
          · subst e
            rw [B.out]; exact hq
          · exact A.out j h (by omega)
    · have hltz : ¬ (kk : Int) < (l0.length : Int) := by omega
      go_wp2
      go_ret
      refine ⟨⟨_, rfl, ?_⟩, BW.out⟩
      rw [show decide ((0 : Int) ≤ -1) = false from rfl, eq_comm, List.any_eq_false]
      intro x hx
      obtain ⟨j, hj, rfl⟩ := List.getElem_of_mem hx
      have := A.out j hj (by omega)
      simp [this]
set_option maxHeartbeats 4000000 in
theorem contains_any (p : Nd → Bool) (pv : Value) (A0 : Option Addr) (c0 : Nat) (l0 : List Nd) (w : World) (hr0 : Kd.C k52 w A0 l0.length l0) (hlen : l0.length ≤ 9223372036854775806)
    (hp : ∀ (W : World) (x : Nd), x ∈ l0 → Below w.heap.size w W → Calls Try.prog 47 #[pv, .agg #[.string x.f0, .int .i64 x.f1, .int .i64 x.f2]] W fun e w' => e = .returned (.bool (p x)) ∧ Below W.heap.size W w') :
    Calls Try.prog 46 #[.slice A0 l0.length c0, .func (.func 47) #[pv] #[]] w fun e w' => e = .returned (.bool (l0.any p)) ∧ Below w.heap.size w w' := by
  have hcon := index_any p pv A0 c0 l0 w hr0 hlen hp
  clear hp hr0
  go_enter Try.func46, Try.ntmps46
  go_wp2_with (go_at_call 61; refine hcon.mono ?_; rintro e w' ⟨⟨r, rfl, hr⟩, hb⟩)
  go_ret
  exact ⟨by rw [← hr]; rfl, hb⟩
theorem rights_ok {R : List Rs} : ∀ {l pre : List Nd}, rights R pre l = 0 → ∀ n ∈ l, ∃ r, findR R n.f0 = some r ∧ okNeed r n = true
  | [], _, _, n, hn => by cases hn
  | x :: t, pre, h, n, hn => by
    unfold rights at h
    split at h
    · rename_i h1
      rcases List.mem_cons.mp hn with e | e
      · subst e
        unfold right1 at h1
        cases hf : findR R n.f0 with
        | none => rw [hf] at h1; cases h1
        | some r =>
          rw [hf] at h1
          refine ⟨r, rfl, ?_⟩
          cases ho : okNeed r n with
          | true => rfl
          | false => dsimp only at h1; rw [ho] at h1; cases h1
      · exact rights_ok h n e
    · rename_i h1
      exact absurd h h1
theorem okNeed_mode {r : Rs} {n : Nd} (h : okNeed r n = true) : n.f2 = 0 ∨ n.f2 = 1 ∨ n.f2 = 2 := by
  unfold okNeed at h
  split at h <;> simp at h
  · rcases h with h | h <;> simp [h]
  · simp [h.1]
theorem rights_step (R : List Rs) (l : List Nd) (i : Nat) (h : i < l.length) : rights R (l.take i) (l.drop i) = if right1 R (l.take i) l[i] = 0 then rights R (l.take (i + 1)) (l.drop (i + 1)) else right1 R (l.take i) l[i] := by
  rw [List.drop_eq_getElem_cons h, List.take_succ_eq_append_getElem h]
  rfl
/-- The names that were met. -/
def fM (pre : List Nd) (s : ByteArray) : Option Value := if pre.any (fun m => eqS m.f0 s) then some (.bool true) else none
set_option maxHeartbeats 8000000 in
theorem May.calls_nil (o : Int) (v : Value) (w : World) : Calls Try.prog 30 #[.pointer none, .int .i64 o, v] w fun e w' => e = .returned (.int .i64 2) ∧ Drawn0 w w' := by
  go_enter Try.func30, Try.ntmps30
  go_wp2
  go_ret
  exact ⟨rfl, Drawn0.refl _⟩
theorem fM_nil (s : ByteArray) : fM [] s = none := rfl
theorem fM_snoc (pre : List Nd) (x : Nd) : fM (pre ++ [x]) x.f0 = some (.bool true) ∧ ∀ d, d ≠ x.f0 → fM (pre ++ [x]) d = fM pre d := by
  refine ⟨?_, fun d hd => ?_⟩
  · unfold fM
    rw [List.any_append, show [x].any (fun m => eqS m.f0 x.f0) = true by simp [eqS_self], Bool.or_true, if_pos rfl]
  · unfold fM
    rw [List.any_append, show [x].any (fun m => eqS m.f0 d) = false by simp [eqS_false.mpr (Ne.symm hd)], Bool.or_false]
set_option maxHeartbeats 16000000 in
theorem May.calls (p bt bh : Nat) (R : List Rs) (H : List Hd) (o : Int) (A0 : Option Addr) (c0 : Nat) (l : List Nd) (w : World) (h : PoolAt w p bt bh R H) (hC : Kd.C k52 w A0 l.length l) (hc : l.length ≤ c0) (hw : ∀ n ∈ l, n.f0.size ≤ maxLen) (hl : l.length ≤ 1000000000000000) :
    Calls Try.prog 30 #[.pointer (some ⟨p, 0, none⟩), .int .i64 o, .slice A0 l.length c0] w fun e w' => e = .returned (.int .i64 (mayOf R H o l)) ∧ Below w.heap.size w w' := by
  obtain ⟨r, hr⟩ : ∃ r, mayOf R H o l = r := ⟨_, rfl⟩
  rw [hr]
  have HRES := Aside0.mk hr
  have HP := Aside0.mk h
  have HC := Aside0.mk hC
  have HG := Aside0.mk h.good
  have c1 : w.cell? ⟨p, 1, none⟩ = some (.map (some bh)) := blk_cell h.cell 1
  obtain ⟨D0, hown, hsays, hsz⟩ := h.held.own
  have HSY := Aside0.mk hsays
  clear h hC hr hsays
  go_enter Try.func30, Try.ntmps30
  go_wp2_with (first
    | (at_range; refine wpList_range_own _ rfl _ 66 rfl 79 52 KK.law Try.underlying66 RV bh H.length D0 rfl hown ?_; intro w0 hrg0 hg0 hs0)
    | go_in)
  go_frame
  go_loopg [] H.length (fun gg wr => ∃ (left : Lit → Bool) (cnt : Nat), Aside0 (wr.ranges Try.prog 79 RV bh w.heap.size H.length D0 left cnt) ∧ Aside0 (Below w.heap.size w wr) ∧ Aside0 (cnt ≤ gg) ∧ Aside0 (∀ h ∈ H, left (KK.kl (kf h)) = false → decide (h.f0 = o) = false))
  case atStart =>
    refine ⟨_, _, ⟨hrg0⟩, ⟨below_of_grown hg0⟩, ⟨?_⟩, ⟨fun h hh e => ?_⟩⟩
    · rw [hsz]; exact Nat.le_refl _
    · rw [HSY.out.has_ _ (HG.out.hwf h hh).1, fH_own HG.out.sorted.apart hh] at e
      cases e
  case round =>
    obtain ⟨left, cnt, HRG, HB, HCN, HN⟩ := hrel
    have hrg := HRG.out
    have hmm := @run_makeMap Try.prog
    clear hown
    have hsays := HSY.out
    go_wp2_with (first
      | (at_next; refine next_key KK rfl _ rfl bh w.heap.size H.length D0 (fH H) hsays left cnt rfl hrg ?_ ?_)
      | go_in)
    · intro _ hl0
      have e : (H.any fun h => decide (h.f0 = o)) = false := by
        rw [List.any_eq_false]
        exact fun x hx => by rw [HN.out x hx (hl0 _)]; simp
      have HRES2 : Aside0 ((if rights R [] l = 0 then (if l.any (busyOf R H) then (32 : Int) else 0) else rights R [] l) = r) := ⟨by rw [← HRES.out]; unfold mayOf; rw [e]; rfl⟩
      clear HRG hrg hsays HN hl0 HRES HCN e hsz hrg0
      go_wp2
      have hm0 := MapAt.made KS wr
      have HM0 := Aside0.mk hm0
      have hb0 : Below w.heap.size w (wr.alloc (.map #[] 0)) := below_alloc HB.out _
      have HB0 := Aside0.mk hb0
      have hmw : w.heap.size ≤ wr.heap.size := HB.out.size
      clear hm0 hb0
      generalize wr.alloc (.map #[] 0) = W at *
      generalize wr.heap.size = mb at *
      go_loopg [31] l.length (fun gg v31 wr => ∃ (i n : Nat), i ≤ l.length ∧ l.length - i ≤ gg ∧ v31 = .int .i64 i ∧ n ≤ i ∧ Aside0 (MapAt KS wr mb n (fM (l.take i))) ∧ Aside0 (Below w.heap.size w wr) ∧ Aside0 (rights R (l.take i) (l.drop i) = rights R [] l))
      case atStart => exact ⟨0, 0, Nat.zero_le _, by omega, rfl, Nat.le_refl _, ⟨HM0.out.congr (fun c _ => rfl)⟩, HB0, ⟨rfl⟩⟩
      case round =>
        clear HM0 HB0
        obtain ⟨i, n, hi, hg, rfl, hni, HM, HBB, HT⟩ := hrel
        by_cases hlt : i < l.length
        · have b2 : decide ((i : Int) < (l.length : Int)) = true := decide_eq_true (by omega)
          have b3 : (i : Int) < (l.length : Int) := by omega
          have hz : (0 : Int) ≤ (i : Int) := by omega
          obtain ⟨ad, e, x0, x1, x2⟩ := at_T52 HC.out (i : Int) hz b3
          cases e
          have hbk := World.block_lt_of_cell? w _ x0
          rw [rdn_at l i hlt, Int.toNat_natCast] at x0 x1 x2
          rw [Int.toNat_natCast] at hbk
          have hwx := hw _ (List.getElem_mem hlt)
          have hst := rights_step R l i hlt
          have hsn := fM_snoc (l.take i) l[i]
          rw [← List.take_succ_eq_append_getElem hlt] at hsn
          obtain ⟨x, hx⟩ : ∃ x, l[i] = x := ⟨_, rfl⟩
          rw [hx] at x0 x1 x2 hwx hst hsn
          clear hx
          rw [HT.out] at hst
          have HST := Aside0.mk hst
          have HSN := Aside0.mk hsn
          replace x0 := (HBB.out.cell hbk).trans x0
          replace x1 := (HBB.out.cell (p := ⟨(ad.add (i * 3)).block, (ad.add (i * 3)).off + 1, none⟩) hbk).trans x1
          replace x2 := (HBB.out.cell (p := ⟨(ad.add (i * 3)).block, (ad.add (i * 3)).off + 2, none⟩) hbk).trans x2
          clear hst hsn HT
          go_upto_region 12 with (fail)
          obtain ⟨V, hV⟩ : ∃ V, V = wr.alloc (.cells #[.string x.f0, .int .i64 x.f1, .int .i64 x.f2] 52 (0, 0)) := ⟨_, rfl⟩
          have hbV : Below wr.heap.size wr V := by rw [hV]; exact below_alloc (Below.refl _ _) _
          have kb : V.heap[wr.heap.size]? = some (.cells #[.string x.f0, .int .i64 x.f1, .int .i64 x.f2] 52 (0, 0)) := by rw [hV]; exact blk_new _ _
          rw [← hV]
          clear hV x0 x1 x2
          have HBV := Aside0.mk (below_go HBB.out HBB.out.size hbV)
          have HMV := Aside0.mk (HM.out.below hbV)
          have hPV := HP.out.below HBV.out
          have y0 : V.cell? ⟨wr.heap.size, 0, none⟩ = some (.string x.f0) := blk_cell kb 0
          have y1 : V.cell? ⟨wr.heap.size, 1, none⟩ = some (.int .i64 x.f1) := blk_cell kb 1
          have y2 : V.cell? ⟨wr.heap.size, 2, none⟩ = some (.int .i64 x.f2) := blk_cell kb 2
          have y3 : V.cell? ⟨p, 0, none⟩ = some (.map (some bt)) := blk_cell hPV.cell 0
          have hlk : ∀ n, (Instr.lookup 65 (.map (some bt)) (.string x.f0) true).run Try.prog (V.drewN n) = .ok (.tuple #[(fT R x.f0).getD .nilIface, .bool (fT R x.f0).isSome]) (V.drewN n) := fun n => (hPV.below (Drawn0.mk ⟨n, rfl⟩).below).thingOk x.f0 hwx
          have HKB := Aside0.mk kb
          clear hPV kb hbV HM
          cases hf : findR R x.f0 with
          | none =>
            have e1 : fT R x.f0 = none := by unfold fT; rw [hf]; rfl
            have e2 : right1 R (l.take i) x = 21 := by unfold right1; rw [hf]
            rw [e1] at hlk
            simp only [Option.getD_none, Option.isSome_none] at hlk
            have HR9 := Aside0.mk (show r = 21 by have h1 := HST.out; rw [e2] at h1; have h2 := HRES2.out; rw [show rights R [] l = 21 from h1] at h2; exact h2.symm)
            clear e1 e2 hf
            go_quiet (fail)
            go_wp2
            go_ret
            exact ⟨by rw [HR9.out]; rfl, below_go HBV.out HBV.out.size (Drawn0.mk ⟨nq, rfl⟩).below⟩
          | some rr =>
            have e1 : fT R x.f0 = some (tv rr) := by unfold fT; rw [hf]; rfl
            rw [e1] at hlk
            simp only [Option.getD_some, Option.isSome_some] at hlk
            cases hb : rr.f2 with
            | true =>
              have hrr : okNeed ⟨x.f0, rr.f1, true⟩ x = okNeed rr x := by unfold okNeed; rw [hb]
              have htv : tv rr = .iface 74 (.agg #[]) := by unfold tv; rw [hb]; rfl
              rw [htv] at hlk
              have hcall := fun (W : World) => lright.calls rr.f1 x W
              rw [hrr] at hcall
              have HF := Aside0.mk hf
              clear hrr htv hb e1 hf
              generalize rr.f1 = ru at *
              go_quiet (fail)
              obtain ⟨U, hU⟩ : ∃ U, U = V.drewN nq := ⟨_, rfl⟩
              have hd : Below V.heap.size V U := by rw [hU]; exact (Drawn0.mk ⟨nq, rfl⟩).below
              rw [← hU]
              have HBU := Aside0.mk (below_go HBV.out HBV.out.size hd)
              have HMU := Aside0.mk (HMV.out.below hd)
              have hkU := blk_below HKB.out hd
              have HKU := Aside0.mk hkU
              clear hU hlk y0 y1 y2 y3 hd
              have y0 : U.cell? ⟨wr.heap.size, 0, none⟩ = some (.string x.f0) := blk_cell hkU 0
              have y1 : U.cell? ⟨wr.heap.size, 1, none⟩ = some (.int .i64 x.f1) := blk_cell hkU 1
              have y2 : U.cell? ⟨wr.heap.size, 2, none⟩ = some (.int .i64 x.f2) := blk_cell hkU 2
              clear hkU
              have hlm : n < maxLen := by unfold maxLen; omega
              cases ho : okNeed rr x with
              | false =>
                have e2 : right1 R (l.take i) x = 1 := by unfold right1; rw [HF.out]; dsimp only; rw [ho]; rfl
                have HR9 := Aside0.mk (show r = 1 by have h1 := HST.out; rw [e2] at h1; have h2 := HRES2.out; rw [show rights R [] l = 1 from h1] at h2; exact h2.symm)
                rw [ho] at hcall
                clear e2 ho
                go_wp2_with (go_at_call 105; refine (hcall _).mono ?_; rintro e1 w9 ⟨rfl, B9⟩)
                go_ret
                exact ⟨by rw [HR9.out]; rfl, below_go HBU.out HBU.out.size B9⟩
              | true =>
                rw [ho] at hcall
                cases ha : (l.take i).any (fun m => eqS m.f0 x.f0) with
                | true =>
                  have e2 : right1 R (l.take i) x = 22 := by unfold right1; rw [HF.out]; dsimp only; rw [ho, ha]; rfl
                  have HR9 := Aside0.mk (show r = 22 by have h1 := HST.out; rw [e2] at h1; have h2 := HRES2.out; rw [show rights R [] l = 22 from h1] at h2; exact h2.symm)
                  have HFM := Aside0.mk (show fM (l.take i) x.f0 = some (.bool true) by unfold fM; rw [ha]; rfl)
                  clear e2 ho ha
                  go_wp2_with (go_at_call 105; refine (hcall _).mono ?_; rintro e1 w9 ⟨rfl, B9⟩; have m9 := (HMU.out.below B9).look Try.underlying99 (z := .bool false) (by rfl) x.f0 hwx; rw [HFM.out] at m9; replace m9 : (Instr.lookup 99 (.map (some mb)) (.string x.f0) false).run Try.prog w9 = .ok (.bool true) w9 := m9; have z0 : w9.cell? ⟨wr.heap.size, 0, none⟩ = some (.string x.f0) := blk_cell (blk_below HKU.out B9) 0)
                  go_ret
                  exact ⟨by rw [HR9.out]; rfl, below_go HBU.out HBU.out.size B9⟩
                | false =>
                  have e2 : right1 R (l.take i) x = 0 := by unfold right1; rw [HF.out]; dsimp only; rw [ho, ha]; rfl
                  have HT9 := Aside0.mk (show rights R (l.take (i + 1)) (l.drop (i + 1)) = rights R [] l by have h1 := HST.out; rw [e2, if_pos rfl] at h1; exact h1.symm)
                  have HFM := Aside0.mk (show fM (l.take i) x.f0 = none by unfold fM; rw [ha]; rfl)
                  clear e2 ho ha
                  go_wp2_with (first | (go_at_call 105; refine (hcall _).mono ?_; rintro e1 w9 ⟨rfl, B9⟩; have m9 := (HMU.out.below B9).look Try.underlying99 (z := .bool false) (by rfl) x.f0 hwx; rw [HFM.out] at m9; replace m9 : (Instr.lookup 99 (.map (some mb)) (.string x.f0) false).run Try.prog w9 = .ok (.bool false) w9 := m9; have z0 : w9.cell? ⟨wr.heap.size, 0, none⟩ = some (.string x.f0) := blk_cell (blk_below HKU.out B9) 0) | (at_mapUpdate; refine wpList_store KS rfl _ _ _ 99 rfl 4 Try.underlying99 mb n (HMU.out.below B9) hlm rfl x.f0 hwx (.bool true) rfl rfl (fM (l.take (i + 1))) HSN.out.1 HSN.out.2 ?_; intro w10 hm10 hg10; rw [HFM.out] at hm10; have HM10 := Aside0.mk hm10; have HG10 := Aside0.mk hg10; clear hm10 hg10; go_frame))
                  go_roundg (l.length - (i + 1))
                  case measure => omega
                  case rel =>
                    exact ⟨i + 1, n + 1, by omega, Nat.le_refl _, by go_num, by omega, ⟨HM10.out⟩, ⟨(below_go HBU.out HBU.out.size B9).trans (grown_below HG10.out hmw (Nat.le_trans HBU.out.size B9.size))⟩, HT9⟩
            | false =>
              have hrr : okNeed ⟨x.f0, rr.f1, false⟩ x = okNeed rr x := by unfold okNeed; rw [hb]
              have htv : tv rr = .iface 72 (.int .i64 rr.f1) := by unfold tv; rw [hb]; rfl
              rw [htv] at hlk
              have hcall := fun (W : World) => uright.calls rr.f1 x W
              rw [hrr] at hcall
              have HF := Aside0.mk hf
              clear hrr htv hb e1 hf
              generalize rr.f1 = ru at *
              go_quiet (fail)
              obtain ⟨U, hU⟩ : ∃ U, U = V.drewN nq := ⟨_, rfl⟩
              have hd : Below V.heap.size V U := by rw [hU]; exact (Drawn0.mk ⟨nq, rfl⟩).below
              rw [← hU]
              have HBU := Aside0.mk (below_go HBV.out HBV.out.size hd)
              have HMU := Aside0.mk (HMV.out.below hd)
              have hkU := blk_below HKB.out hd
              have HKU := Aside0.mk hkU
              clear hU hlk y0 y1 y2 y3 hd
              have y0 : U.cell? ⟨wr.heap.size, 0, none⟩ = some (.string x.f0) := blk_cell hkU 0
              have y1 : U.cell? ⟨wr.heap.size, 1, none⟩ = some (.int .i64 x.f1) := blk_cell hkU 1
              have y2 : U.cell? ⟨wr.heap.size, 2, none⟩ = some (.int .i64 x.f2) := blk_cell hkU 2
              clear hkU
              have hlm : n < maxLen := by unfold maxLen; omega
              cases ho : okNeed rr x with
              | false =>
                have e2 : right1 R (l.take i) x = 1 := by unfold right1; rw [HF.out]; dsimp only; rw [ho]; rfl
                have HR9 := Aside0.mk (show r = 1 by have h1 := HST.out; rw [e2] at h1; have h2 := HRES2.out; rw [show rights R [] l = 1 from h1] at h2; exact h2.symm)
                rw [ho] at hcall
                clear e2 ho
                go_wp2_with (go_at_call 104; refine (hcall _).mono ?_; rintro e1 w9 ⟨rfl, B9⟩)
                go_ret
                exact ⟨by rw [HR9.out]; rfl, below_go HBU.out HBU.out.size B9⟩
              | true =>
                rw [ho] at hcall
                cases ha : (l.take i).any (fun m => eqS m.f0 x.f0) with
                | true =>
                  have e2 : right1 R (l.take i) x = 22 := by unfold right1; rw [HF.out]; dsimp only; rw [ho, ha]; rfl
                  have HR9 := Aside0.mk (show r = 22 by have h1 := HST.out; rw [e2] at h1; have h2 := HRES2.out; rw [show rights R [] l = 22 from h1] at h2; exact h2.symm)
                  have HFM := Aside0.mk (show fM (l.take i) x.f0 = some (.bool true) by unfold fM; rw [ha]; rfl)
                  clear e2 ho ha
                  go_wp2_with (go_at_call 104; refine (hcall _).mono ?_; rintro e1 w9 ⟨rfl, B9⟩; have m9 := (HMU.out.below B9).look Try.underlying99 (z := .bool false) (by rfl) x.f0 hwx; rw [HFM.out] at m9; replace m9 : (Instr.lookup 99 (.map (some mb)) (.string x.f0) false).run Try.prog w9 = .ok (.bool true) w9 := m9; have z0 : w9.cell? ⟨wr.heap.size, 0, none⟩ = some (.string x.f0) := blk_cell (blk_below HKU.out B9) 0)
                  go_ret
                  exact ⟨by rw [HR9.out]; rfl, below_go HBU.out HBU.out.size B9⟩
                | false =>
                  have e2 : right1 R (l.take i) x = 0 := by unfold right1; rw [HF.out]; dsimp only; rw [ho, ha]; rfl
                  have HT9 := Aside0.mk (show rights R (l.take (i + 1)) (l.drop (i + 1)) = rights R [] l by have h1 := HST.out; rw [e2, if_pos rfl] at h1; exact h1.symm)
                  have HFM := Aside0.mk (show fM (l.take i) x.f0 = none by unfold fM; rw [ha]; rfl)
                  clear e2 ho ha
                  go_wp2_with (first | (go_at_call 104; refine (hcall _).mono ?_; rintro e1 w9 ⟨rfl, B9⟩; have m9 := (HMU.out.below B9).look Try.underlying99 (z := .bool false) (by rfl) x.f0 hwx; rw [HFM.out] at m9; replace m9 : (Instr.lookup 99 (.map (some mb)) (.string x.f0) false).run Try.prog w9 = .ok (.bool false) w9 := m9; have z0 : w9.cell? ⟨wr.heap.size, 0, none⟩ = some (.string x.f0) := blk_cell (blk_below HKU.out B9) 0) | (at_mapUpdate; refine wpList_store KS rfl _ _ _ 99 rfl 4 Try.underlying99 mb n (HMU.out.below B9) hlm rfl x.f0 hwx (.bool true) rfl rfl (fM (l.take (i + 1))) HSN.out.1 HSN.out.2 ?_; intro w10 hm10 hg10; rw [HFM.out] at hm10; have HM10 := Aside0.mk hm10; have HG10 := Aside0.mk hg10; clear hm10 hg10; go_frame))
                  go_roundg (l.length - (i + 1))
                  case measure => omega
                  case rel =>
                    exact ⟨i + 1, n + 1, by omega, Nat.le_refl _, by go_num, by omega, ⟨HM10.out⟩, ⟨(below_go HBU.out HBU.out.size B9).trans (grown_below HG10.out hmw (Nat.le_trans HBU.out.size B9.size))⟩, HT9⟩
        · have b2 : decide ((i : Int) < (l.length : Int)) = false := decide_eq_false (by omega)
          have e0 : rights R [] l = 0 := by
            rw [← HT.out, List.drop_eq_nil_of_le (by omega)]; rfl
          have hP9 := HP.out.below HBB.out
          have hcon := contains_any (busyOf R H) (.pointer (some ⟨p, 0, none⟩)) A0 c0 l wr (Kd.C_below HC.out (HBB.out.mono (Nat.le_refl _))) (by omega) (fun W x hx hW => by
            obtain ⟨rr, _, hok⟩ := rights_ok e0 x hx
            exact busy.calls p bt bh R H x ⟨hw x hx, okNeed_mode hok⟩ W (hP9.below hW))
          have HR9 := Aside0.mk (show (if l.any (busyOf R H) then (32 : Int) else 0) = r by have h2 := HRES2.out; rw [e0] at h2; exact h2)
          generalize l.any (busyOf R H) = bb at *
          clear hP9 e0 HT
          cases bb with
          | true =>
            go_wp2_with (go_at_call 46; refine hcon.mono ?_; rintro e1 w9 ⟨rfl, B9⟩)
            go_ret
            exact ⟨by rw [← HR9.out]; rfl, below_go HBB.out HBB.out.size B9⟩
          | false =>
            go_wp2_with (go_at_call 46; refine hcon.mono ?_; rintro e1 w9 ⟨rfl, B9⟩)
            go_ret
            exact ⟨by rw [← HR9.out]; rfl, below_go HBB.out HBB.out.size B9⟩
    · intro x v w2 cnt2 hcame hen
      obtain ⟨y, hy, rfl, rfl⟩ := fH_mem hcame.mem
      have ekv : KK.kv (kf y) = .agg #[.int .i64 y.f0, .string y.f1] := rfl
      rw [ekv] at hen ⊢
      have HCM := Aside0.mk hcame
      have HY := Aside0.mk hy
      clear hcame hsays hrg HRG ekv
      generalize nv y = vy at hen ⊢
      have HB2 := Aside0.mk (HB.out.grown HCM.out.grown HB.out.size (fun k e => by cases e; exact Nat.le_refl _))
      have HN2 := Aside0.mk (fun (hc : decide (y.f0 = o) = false) (h : Hd) (hh : h ∈ H) (e : (left (KK.kl (kf h)) && !(KK.kl (kf h)).sameKey (KK.kl (kf y))) = false) => (show decide (h.f0 = o) = false from (gone HG.out.sorted.apart (fun h hh => (HG.out.hwf h hh).1) HY.out hh e).elim (fun q => HN.out h hh q) (fun q => q ▸ hc)))
      by_cases hq : y.f0 = o
      · have t1 : (y.f0 == o) = true := beq_iff_eq.mpr hq
        go_wp2
        go_ret
        refine ⟨?_, below_alloc HB2.out _⟩
        rw [← HRES.out]
        unfold mayOf
        rw [List.any_eq_true.mpr ⟨y, HY.out, decide_eq_true hq⟩]
        rfl
      · have t1 : (y.f0 == o) = false := beq_eq_false_iff_ne.mpr hq
        go_wp2
        go_roundg cnt2
        case measure => have := HCN.out; have := HCM.out.lt; omega
        case rel =>
          exact ⟨_, cnt2, ⟨HCM.out.ranges.alloc _⟩, ⟨below_alloc HB2.out _⟩, ⟨Nat.le_refl _⟩, ⟨HN2.out (decide_eq_false hq)⟩⟩
end Go.Proofs.Ytgdnljhndjlefaa.QNeedFits
