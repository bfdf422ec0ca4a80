/- A pool as it is, of which nothing is held. No conditions beyond those that each theorem names. -/
import Derived.Test.YtgdnljhndjlefaaQNeedFitsPoolCopy
namespace Go.Proofs.Ytgdnljhndjlefaa.QNeedFits
open Go.RowKit Go.Proofs.Ytgdnljhndjlefaa.PNeedFits Go.Proofs.YtgdnljhndjlefaaW.PrintWords Go.Proofs.YtgdnljhndjlefaaW.PrintLast Go.Proofs.YtgdnljhndjlefaaW.PrintMore Go.Proofs.Ytgdnljhndjlefaa.MMaps
set_option linter.unusedVariables false
set_option linter.unusedSimpArgs false
set_option maxRecDepth 100000
theorem rdhp_at' (L : List Hp) (i : Nat) (h : i < L.length) : rd_T57 L (i : Int) = L[i] := by
  unfold rd_T57
  rw [Int.toNat_natCast]
  simp [List.getD, List.getElem?_eq_getElem h]
theorem given_mem {H : List Hd} {o : Int} {x : Hd} (h : x ∈ giveOf H o) : x ∈ H ∧ x.f0 ≠ o := by
  obtain ⟨h1, h2⟩ := List.mem_filter.mp h
  exact ⟨h1, by simpa using h2⟩
theorem row_off {w : World} {base n c : Nat} {ok : Nat → Prop} {L : List Hp} {ad : Addr} (h : k57.R 57 w base ok (.slice (some ad) n c) L) : base ≤ ad.block := by
  rcases row_open h with ⟨e, _⟩ | ⟨g, cap, cur, e, hb, _⟩
  · cases e
  · cases e; exact hb
set_option maxHeartbeats 8000000 in
theorem Copy.calls_nil (w : World) : Calls Try.prog 54 #[.pointer none] w fun e w' => e = .returned (.pointer none) ∧ Drawn0 w w' := by
  go_enter Try.func54, Try.ntmps54
  go_wp2
  go_ret
  exact ⟨rfl, Drawn0.refl _⟩
set_option maxHeartbeats 8000000 in
theorem empty.calls_nil (w : World) : Calls Try.prog 38 #[.pointer none] w fun e w' => e = .returned (.pointer none) ∧ Drawn0 w w' := by
  go_enter Try.func38, Try.ntmps38
  go_wp2_with (first
    | (go_at_call 54; refine (Copy.calls_nil _).mono ?_; rintro e w1 ⟨rfl, d1⟩)
    | (go_at_call 15; refine (List.calls_nil _).mono ?_; rintro e w2 ⟨rfl, d2⟩))
  have hd := drawn_trans d1 d2
  go_loopg [11] 0 (fun gg v11 wr => v11 = .int .i64 0 ∧ Drawn0 w wr)
  case atStart => exact ⟨rfl, hd⟩
  case round =>
    obtain ⟨rfl, hd⟩ := hrel
    go_wp2
    go_ret
    exact ⟨rfl, hd⟩
set_option maxHeartbeats 8000000 in
theorem empty.calls (p bt bh : Nat) (R : List Rs) (H : List Hd) (w : World) (h : PoolAt w p bt bh R H) :
    Calls Try.prog 38 #[.pointer (some ⟨p, 0, none⟩)] w fun e w' => ∃ p' bt' bh', e = .returned (.pointer (some ⟨p', 0, none⟩)) ∧ w.heap.size ≤ p' ∧ w.heap.size ≤ bt' ∧ w.heap.size ≤ bh' ∧ PoolAt w' p' bt' bh' R [] ∧ Below w.heap.size w w' := by
  have hC := Copy.calls p bt bh R H w h
  have hln := h.good.hlen
  clear h
  go_enter Try.func38, Try.ntmps38
  go_wp2_with (first
    | (go_at_call 54; refine hC.mono ?_; rintro e w1 ⟨p2, t2, h2, rfl, hp2, ht2, hh2, hP1, hB1⟩; have hLs := List.calls p2 t2 h2 R H w1 hP1; clear hC)
    | (go_at_call 15; refine hLs.mono ?_; rintro e w2 ⟨v2, rfl, hR2, hB2⟩; obtain ⟨A2, k2, e2, hk2, hC2⟩ := Kd.R_reads hR2; rw [List.length_map] at e2 hk2; subst e2; have hP2 := hP1.below hB2; have hB := below_go hB1 hB1.size hB2; have HC := Aside0.mk hC2; have HR := Aside0.mk hR2; have hlh := hP1.held.lt; clear hC2 hR2 hLs hP1 hB1))
  have hB3 := below_go hB hB.size (Below.refl w2.heap.size w2)
  have HW := Aside0.mk (Below.refl w2.heap.size w2)
  go_loopg [11] H.length (fun gg v11 wr => ∃ (i : Nat) (M : List Hd), i ≤ H.length ∧ H.length - i ≤ gg ∧ v11 = .int .i64 i ∧ PoolAt wr p2 t2 h2 R M ∧ Aside0 (Below w.heap.size w wr) ∧ Aside0 (w2.grownBy wr (some h2)) ∧ Aside0 (∀ h ∈ M, ∃ j, ∃ hj : j < H.length, i ≤ j ∧ H[j].f0 = h.f0))
  case atStart => exact ⟨0, H, Nat.zero_le _, by omega, rfl, hP2, ⟨hB⟩, ⟨(below_grown HW.out none).but _⟩, ⟨fun h hh => by obtain ⟨j, hj, e⟩ := List.getElem_of_mem hh; exact ⟨j, hj, Nat.zero_le _, by rw [e]⟩⟩⟩
  case round =>
    clear hP2 hB hB3 HW
    obtain ⟨i, M, hi, hg, rfl, hPM, HB, HGW, HM⟩ := hrel
    by_cases hlt : i < H.length
    · have b2 : decide ((i : Int) < (H.length : Int)) = true := decide_eq_true (by omega)
      have hlt' : i < (H.map toP).length := by simpa using hlt
      obtain ⟨ad, e, x0, x1, x2, x3⟩ := at_T57 HC.out (i : Int) (by omega) (by omega)
      subst e
      rw [rdhp_at' _ i hlt', Int.toNat_natCast, List.getElem_map] at x0 x1 x2 x3
      have hbk := World.block_lt_of_cell? w2 _ x0
      have hoff := row_off HR.out
      have hne : some (ad.add (i * 4)).block ≠ some h2 := by have hab : (ad.add (i * 4)).block = ad.block := (by unfold Addr.add; split <;> rfl); simp; omega
      have hkeep := HGW.out.block (ad.add (i * 4)).block hbk hne
      replace x0 := (World.cell?_of_block hkeep).trans x0
      replace x1 := (World.cell?_of_block (a := ⟨(ad.add (i * 4)).block, (ad.add (i * 4)).off + 1, none⟩) hkeep).trans x1
      replace x2 := (World.cell?_of_block (a := ⟨(ad.add (i * 4)).block, (ad.add (i * 4)).off + 2, none⟩) hkeep).trans x2
      replace x3 := (World.cell?_of_block (a := ⟨(ad.add (i * 4)).block, (ad.add (i * 4)).off + 3, none⟩) hkeep).trans x3
      have HMM := Aside0.mk (fun (h : Hd) (hh : h ∈ giveOf M H[i].f0) => given_mem hh)
      obtain ⟨x, hx⟩ : ∃ x, H[i] = x := ⟨_, rfl⟩
      rw [hx] at x0 x1 x2 x3 HMM
      have HX := Aside0.mk hx
      clear hx hkeep
      have hG := fun V o (hV : PoolAt V p2 t2 h2 R M) => Give.calls p2 t2 h2 R M o V hV
      have hPV := fun V (hV : Below wr.heap.size wr V) => hPM.below hV
      go_wp2_with (go_at_call 55; refine (hG _ x.f0 (hPV _ (below_alloc (Below.refl _ _) _))).mono ?_; rintro e5 w5 ⟨rfl, hP5, hg5⟩)
      go_roundg (H.length - (i + 1))
      case measure => omega
      case rel =>
        refine ⟨i + 1, giveOf M x.f0, by omega, Nat.le_refl _, by go_num, hP5, ⟨?_⟩, ⟨?_⟩, ⟨fun h hh => ?_⟩⟩
        · exact (below_alloc HB.out _).trans (grown_below hg5 hh2 (below_alloc HB.out _).size)
        · exact (HGW.out.andThen (row' := some h2) (below_grown (below_alloc (Below.refl _ _) _) (some h2)) (fun j hj => .inr hj)).andThen (row' := some h2) hg5 (fun j hj => .inr hj)
        · obtain ⟨e1, e2⟩ := HMM.out h hh
          obtain ⟨j, hj, h1, h3⟩ := HM.out h e1
          refine ⟨j, hj, ?_, h3⟩
          rcases Nat.lt_or_ge i j with q | q
          · omega
          · have : j = i := by omega
            subst this
            rw [HX.out] at h3
            exact absurd h3.symm e2
    · have b2 : decide ((i : Int) < (H.length : Int)) = false := decide_eq_false (by omega)
      have hE : M = [] := by
        cases M with
        | nil => rfl
        | cons h t =>
          obtain ⟨j, hj, h1, h2⟩ := HM.out h (.head _)
          omega
      subst hE
      go_wp2
      go_ret
      exact ⟨p2, t2, h2, rfl, hp2, ht2, hh2, hPM, HB.out⟩
end Go.Proofs.Ytgdnljhndjlefaa.QNeedFits

/- Whether needs could be met: the program's way, and the document's. No conditions beyond those that each theorem names. -/
namespace Go.Proofs.Ytgdnljhndjlefaa.QNeedFits
open Go.RowKit Go.Proofs.Ytgdnljhndjlefaa.PNeedFits Go.Proofs.YtgdnljhndjlefaaW.PrintWords Go.Proofs.YtgdnljhndjlefaaW.PrintLast Go.Proofs.YtgdnljhndjlefaaW.PrintMore Go.Proofs.Ytgdnljhndjlefaa.MMaps
set_option linter.unusedVariables false
set_option linter.unusedSimpArgs false
set_option maxRecDepth 100000
/-- Whether needs could be met, if nothing was held. -/
def fitsOf (R : List Rs) (l : List Nd) : Int := mayOf R [] 1 l
theorem may_none (R : List Rs) (o : Int) (l : List Nd) : mayOf R [] o l = fitsOf R l := rfl
/-- Whether those of two owners could be, at once. -/
def bothOf (R : List Rs) (a b : List Nd) : Bool := decide (fitsOf R a = 0) && decide (mayOf R (takes 1 a []) 2 b = 0)
theorem takeOf_zero {R : List Rs} {H : List Hd} {o : Int} {l : List Nd} (h : mayOf R H o l = 0) : takeOf R H o l = takes o l H := by
  unfold takeOf; rw [if_pos h]
set_option maxHeartbeats 8000000 in
theorem Fits.calls_nil (v : Value) (w : World) : Calls Try.prog 16 #[.pointer none, v] w fun e w' => e = .returned (.int .i64 2) ∧ Drawn0 w w' := by
  go_enter Try.func16, Try.ntmps16
  go_wp2_with (first
    | (go_at_call 38; refine (empty.calls_nil _).mono ?_; rintro e w1 ⟨rfl, d1⟩)
    | (go_at_call 30; refine (May.calls_nil 0 v _).mono ?_; rintro e w2 ⟨rfl, d2⟩))
  go_ret
  exact ⟨rfl, drawn_trans d1 d2⟩
set_option maxHeartbeats 8000000 in
theorem Both.calls_nil (u v : Value) (w : World) : Calls Try.prog 18 #[.pointer none, u, v] w fun e w' => e = .returned (.bool false) ∧ Drawn0 w w' := by
  go_enter Try.func18, Try.ntmps18
  go_wp2_with (first
    | (go_at_call 38; refine (empty.calls_nil _).mono ?_; rintro e w1 ⟨rfl, d1⟩)
    | (go_at_call 12; refine (Take.calls_nil 1 u _).mono ?_; rintro e w2 ⟨rfl, d2⟩))
  go_ret
  exact ⟨rfl, drawn_trans d1 d2⟩
set_option maxHeartbeats 8000000 in
theorem Fits.calls (p bt bh : Nat) (R : List Rs) (H : List Hd) (A : Option Addr) (c : Nat) (l : List Nd) (w : World) (h : PoolAt w p bt bh R H) (hC : Kd.C k52 w A l.length l) (hc : l.length ≤ c) (hw : ∀ n ∈ l, n.f0.size ≤ maxLen) (hl : l.length ≤ 1000000000000000) :
    Calls Try.prog 16 #[.pointer (some ⟨p, 0, none⟩), .slice A l.length c] w fun e w' => e = .returned (.int .i64 (fitsOf R l)) ∧ Below w.heap.size w w' := by
  have hE := empty.calls p bt bh R H w h
  have HC := Aside0.mk hC
  clear h hC
  go_enter Try.func16, Try.ntmps16
  go_wp2_with (first
    | (go_at_call 38; refine hE.mono ?_; rintro e w1 ⟨p2, t2, h2, rfl, hp2, ht2, hh2, hP1, hB1⟩; have hM := May.calls p2 t2 h2 R [] 0 A c l w1 hP1 (Kd.C_below HC.out hB1) hc hw hl; clear hE hP1)
    | (go_at_call 30; refine hM.mono ?_; rintro e w2 ⟨rfl, hB2⟩))
  go_ret
  exact ⟨rfl, below_go hB1 hB1.size hB2⟩
set_option maxHeartbeats 8000000 in
theorem Both.calls (p bt bh : Nat) (R : List Rs) (H : List Hd) (A : Option Addr) (c : Nat) (l : List Nd) (A' : Option Addr) (c' : Nat) (m : List Nd) (w : World) (h : PoolAt w p bt bh R H) (hC : Kd.C k52 w A l.length l) (hc : l.length ≤ c) (hw : ∀ n ∈ l, n.f0.size ≤ maxLen) (hl : l.length ≤ 1000000000000000) (hC' : Kd.C k52 w A' m.length m) (hc' : m.length ≤ c') (hw' : ∀ n ∈ m, n.f0.size ≤ maxLen) (hl' : m.length ≤ 1000000000000000) (hR : R.length ≤ 50000) :
    Calls Try.prog 18 #[.pointer (some ⟨p, 0, none⟩), .slice A l.length c, .slice A' m.length c'] w fun e w' => e = .returned (.bool (bothOf R l m)) ∧ Below w.heap.size w w' := by
  have hE := empty.calls p bt bh R H w h
  have HC := Aside0.mk hC
  have HC' := Aside0.mk hC'
  clear h hC hC'
  obtain ⟨e0, he0⟩ : ∃ e0, fitsOf R l = e0 := ⟨_, rfl⟩
  by_cases hz : e0 = 0
  · subst hz
    have htk := takeOf_zero (R := R) (H := []) (o := 1) (l := l) he0
    have hll := takeOf_len' (R := R) (H := []) (o := 1) (l := l) he0
    have hbo : bothOf R l m = decide (mayOf R (takes 1 l []) 2 m = 0) := by unfold bothOf; rw [he0]; simp
    have hlen : (takes 1 l []).length = l.length := by rw [takes_length]; simp
    obtain ⟨e1, he1⟩ : ∃ e1, mayOf R (takes 1 l []) 2 m = e1 := ⟨_, rfl⟩
    rw [hbo, he1]
    have HT2 := Aside0.mk (fun V p2 t2 h2 (hP : PoolAt V p2 t2 h2 R (takes 1 l [])) hc9 => Take.calls p2 t2 h2 R (takes 1 l []) 2 A' c' m V hP hc9 hc' hw' (by decide) hl' (fun hz => by have := takeOf_len' hz; omega))
    rw [he1] at HT2
    go_enter Try.func18, Try.ntmps18
    go_wp2_with (first
      | (go_at_call 38; refine hE.mono ?_; rintro e w1 ⟨p2, t2, h2, rfl, hp2, ht2, hh2, hP1, hB1⟩; have hM := Take.calls p2 t2 h2 R [] 1 A c l w1 hP1 (Kd.C_below HC.out hB1) hc hw (by decide) hl (fun _ => by simp; omega); rw [may_none, he0, htk] at hM; clear hE hP1)
      | (go_at_call 12; first
        | ((with_reducible refine hM.mono ?_); rintro e w2 ⟨rfl, hP2, hg2⟩; have hB2 : Below w.heap.size w w2 := hB1.trans (grown_below hg2 hh2 hB1.size); have hM2 := HT2.out w2 p2 t2 h2 hP2 (Kd.C_below HC'.out hB2); clear hM hP2 hg2)
        | ((with_reducible refine hM2.mono ?_); rintro e w3 ⟨rfl, hP3, hg3⟩; have hB3 : Below w.heap.size w w3 := hB2.trans (grown_below hg3 hh2 hB2.size))))
    go_ret
    exact ⟨rfl, hB3⟩
  · have hbo : bothOf R l m = false := by unfold bothOf; rw [he0, decide_eq_false hz]; rfl
    rw [hbo]
    have n0 : (e0 == 0) = false := beq_eq_false_iff_ne.mpr hz
    have HT := Aside0.mk (fun V p2 t2 h2 (hP : PoolAt V p2 t2 h2 R []) hc9 => Take.calls p2 t2 h2 R [] 1 A c l V hP hc9 hc hw (by decide) hl (fun hz => by have := takeOf_len' hz; simp; omega))
    rw [may_none, he0] at HT
    go_enter Try.func18, Try.ntmps18
    go_wp2_with (first
      | (go_at_call 38; refine hE.mono ?_; rintro e w1 ⟨p2, t2, h2, rfl, hp2, ht2, hh2, hP1, hB1⟩; have hM := HT.out w1 p2 t2 h2 hP1 (Kd.C_below HC.out hB1); clear hE hP1)
      | (go_at_call 12; ((with_reducible refine hM.mono ?_); rintro e w2 ⟨rfl, hP2, hg2⟩; have hB2 : Below w.heap.size w w2 := hB1.trans (grown_below hg2 hh2 hB1.size); clear hM hP2 hg2)))
    go_ret
    exact ⟨rfl, hB2⟩
/-- A reference's pool of the same resources, of which nothing is held. -/
theorem fresh_ref {w : World} {r : Nat} {ok : Nat → Prop} {R : List Rs} {H : List Hd} (h : RefAt w r ok R H) {A : Option Addr} {c : Nat} (hr : w.cell? ⟨r, 0, none⟩ = some (.slice A R.length c)) : RefAt (w.alloc (.cells #[.slice A R.length c, .slice none 0 0] 76 (0, 0))) w.heap.size (fun k => k ≠ w.heap.size) R [] := by
  obtain ⟨A1, c1, A2, c2, h1, h2, h3⟩ := h.own
  have e := blk_cell h1 0
  rw [hr] at e
  cases e
  exact ⟨A, c, none, 0, blk_new _ _, Kd.R_below (Kd.R_mono (Kd.R_bound h2) (fun k hk => Nat.ne_of_lt hk.2.2.1)) (below_alloc (Below.refl _ _) _), Kd.R_nil _ _ _ _ _⟩
set_option maxHeartbeats 8000000 in
theorem RFits.calls (r : Nat) (ok : Nat → Prop) (R : List Rs) (H : List Hd) (A0 : Option Addr) (c0 : Nat) (L : List Nr) (w : World) (h : RefAt w r ok R H) (hgd : Good R []) (hC : Kd.C k80 w A0 L.length L) (hc : L.length ≤ c0) (hll : L.length ≤ 1000000000000000) :
    Calls Try.prog 17 #[.pointer (some ⟨r, 0, none⟩), .slice A0 L.length c0] w fun e w' => e = .returned (.int .i64 (fitsOf R (ndL L))) ∧ Below w.heap.size w w' := by
  obtain ⟨A1, c1, A2, c2, r0, _⟩ := h.reads
  have HF := Aside0.mk (fresh_ref h r0)
  have HC := Aside0.mk hC
  clear h hC
  go_enter Try.func17, Try.ntmps17
  go_upto_region 2 with (fail)
  obtain ⟨W, hW⟩ : ∃ W, W = w.alloc (.cells #[.slice A1 R.length c1, .slice none 0 0] 76 (0, 0)) := ⟨_, rfl⟩
  have hB : Below w.heap.size w W := by rw [hW]; exact below_alloc (Below.refl _ _) _
  have hF := HF.out
  rw [← hW] at hF ⊢
  have hM := RMay.calls w.heap.size _ R [] 1 A0 c0 L W hF hgd (Kd.C_below HC.out hB) hc hll
  rw [may_none] at hM
  clear hW hF HF
  go_wp2_with (go_at_call 31; refine hM.mono ?_; rintro e w2 ⟨rfl, hB2⟩)
  go_ret
  exact ⟨rfl, below_go hB hB.size hB2⟩
set_option maxHeartbeats 8000000 in
theorem RBoth.calls (r : Nat) (ok : Nat → Prop) (R : List Rs) (H : List Hd) (A0 : Option Addr) (c0 : Nat) (L : List Nr) (A0' : Option Addr) (c0' : Nat) (M : List Nr) (w : World) (h : RefAt w r ok R H) (hgd : Good R []) (hC : Kd.C k80 w A0 L.length L) (hc : L.length ≤ c0) (hll : L.length ≤ 1000000000000000) (hC' : Kd.C k80 w A0' M.length M) (hc' : M.length ≤ c0') (hll' : M.length ≤ 1000000000000000) (hR : R.length ≤ 50000) (hgt : ∀ K, takeOf R [] 1 (ndL L) = K → Good R K) :
    Calls Try.prog 19 #[.pointer (some ⟨r, 0, none⟩), .slice A0 L.length c0, .slice A0' M.length c0'] w fun e w' => e = .returned (.bool (bothOf R (ndL L) (ndL M))) ∧ Below w.heap.size w w' := by
  obtain ⟨A1, c1, A2, c2, r0, _⟩ := h.reads
  have HF := Aside0.mk (fresh_ref h r0)
  have HC := Aside0.mk hC
  have HC' := Aside0.mk hC'
  clear h hC hC'
  go_enter Try.func19, Try.ntmps19
  go_upto_region 2 with (fail)
  obtain ⟨W, hW⟩ : ∃ W, W = w.alloc (.cells #[.slice A1 R.length c1, .slice none 0 0] 76 (0, 0)) := ⟨_, rfl⟩
  have hB : Below w.heap.size w W := by rw [hW]; exact below_alloc (Below.refl _ _) _
  have hF := HF.out
  have hsz : w.heap.size < W.heap.size := by rw [hW]; simp
  rw [← hW] at hF ⊢
  have hT := RTake.calls w.heap.size _ R [] 1 A0 c0 L W hF hgd (Kd.C_below HC.out hB) hc hll (fun hz => by have := takeOf_len' hz; unfold ndL at this; simp at this ⊢; omega) (fun k hk => by omega) (by simp)
  rw [may_none] at hT
  clear hW hF HF
  obtain ⟨e0, he0⟩ : ∃ e0, fitsOf R (ndL L) = e0 := ⟨_, rfl⟩
  rw [he0] at hT
  by_cases hz : e0 = 0
  · subst hz
    have htk := takeOf_zero (R := R) (H := []) (o := 1) (l := ndL L) he0
    have hln := takeOf_len' (R := R) (H := []) (o := 1) (l := ndL L) he0
    have hbo : bothOf R (ndL L) (ndL M) = decide (mayOf R (takes 1 (ndL L) []) 2 (ndL M) = 0) := by unfold bothOf; rw [he0]; simp
    have hlen : (takes 1 (ndL L) []).length = (ndL L).length := by rw [takes_length]; simp
    have hgt := hgt _ htk
    obtain ⟨e1, he1⟩ : ∃ e1, mayOf R (takes 1 (ndL L) []) 2 (ndL M) = e1 := ⟨_, rfl⟩
    rw [he1] at hbo
    have HBO := Aside0.mk hbo
    clear hbo
    rw [htk] at hT
    have HT2 := Aside0.mk (fun V (hP : RefAt V w.heap.size (fun k => k ≠ w.heap.size) R (takes 1 (ndL L) [])) (hV : w.heap.size < V.heap.size) hc9 => RTake.calls w.heap.size _ R (takes 1 (ndL L) []) 2 A0' c0' M V hP hgt hc9 hc' hll' (fun hz => by have := takeOf_len' hz; unfold ndL at this; simp only [List.length_map] at this; omega) (fun k hk => by omega) (by simp))
    rw [he1] at HT2
    go_wp2_with (go_at_call 14; first
        | ((with_reducible refine hT.mono ?_); rintro e w2 ⟨rfl, hP2, hg2⟩; have hB2 : Below w.heap.size w w2 := hB.trans (grown_below hg2 (Nat.le_refl _) hB.size); have hM2 := HT2.out w2 hP2 (Nat.lt_of_lt_of_le hsz hg2.size) (Kd.C_below HC'.out hB2); clear hT hP2 hg2)
        | ((with_reducible refine hM2.mono ?_); rintro e w3 ⟨rfl, hP3, hg3⟩; have hB3 : Below w.heap.size w w3 := hB2.trans (grown_below hg3 (Nat.le_refl _) hB2.size)))
    go_ret
    exact ⟨by rw [HBO.out]; rfl, hB3⟩
  · have hbo : bothOf R (ndL L) (ndL M) = false := by unfold bothOf; rw [he0, decide_eq_false hz]; rfl
    have HBO := Aside0.mk hbo
    clear hbo
    have n0 : (e0 == 0) = false := beq_eq_false_iff_ne.mpr hz
    go_wp2_with (go_at_call 14; ((with_reducible refine hT.mono ?_); rintro e w2 ⟨rfl, hP2, hg2⟩; have hB2 : Below w.heap.size w w2 := hB.trans (grown_below hg2 (Nat.le_refl _) hB.size); clear hT hP2 hg2))
    go_ret
    exact ⟨by rw [HBO.out]; rfl, hB2⟩
end Go.Proofs.Ytgdnljhndjlefaa.QNeedFits
