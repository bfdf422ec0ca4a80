/- What a pool holds, as a list in order. No conditions beyond those that each theorem names. -/
import Derived.Test.YtgdnljhndjlefaaQNeedFitsPoolRow
import Derived.Shelf.SlSortCmp.NoneTotal
namespace Go.Proofs.Ytgdnljhndjlefaa.QNeedFits
open Go.RowKit Go.Proofs.Ytgdnljhndjlefaa.PNeedFits Go.Proofs.YtgdnljhndjlefaaW.PrintWords Go.Proofs.YtgdnljhndjlefaaW.PrintLast Go.Proofs.YtgdnljhndjlefaaW.PrintMore Go.Proofs.Ytgdnljhndjlefaa.MMaps
set_option linter.unusedVariables false
set_option linter.unusedSimpArgs false
set_option maxRecDepth 100000
theorem infoP : (Try.prog.info? 57).map (fun i => (i.zero, i.size, i.bytes)) = some (some (.agg #[.int .i64 0, .string ⟨#[]⟩, .int .i64 0, .int .i64 0]), 4, 40) := by kernel_rfl
/-- What has come so far. -/
structure Coll (H : List Hd) (left : Lit → Bool) (A : List Hp) : Prop where
  apart : (A.map toH).Pairwise fun a b => kf a ≠ kf b
  mem : ∀ c, c ∈ A.map toH ↔ c ∈ H ∧ left (KK.kl (kf c)) = false
theorem Coll.start {H : List Hd} {left : Lit → Bool} (h : ∀ h ∈ H, left (KK.kl (kf h)) = true) : Coll H left [] :=
  ⟨List.Pairwise.nil, fun c => ⟨fun hc => (by cases hc), fun ⟨h1, h2⟩ => by rw [h c h1] at h2; cases h2⟩⟩
theorem Coll.step {H : List Hd} {A : List Hp} {left : Lit → Bool} (h : Coll H left A) (hw : ∀ c ∈ H, wfK (kf c)) (ha : H.Pairwise fun a b => kf a ≠ kf b) {x : Hd} (hx : x ∈ H) (hl : left (KK.kl (kf x)) = true) : Coll H (fun z => left z && !z.sameKey (KK.kl (kf x))) (A ++ [toP x]) := by
  have hn : x ∉ A.map toH := fun hm => by have := ((h.mem x).mp hm).2; rw [hl] at this; cases this
  have e : (A ++ [toP x]).map toH = A.map toH ++ [x] := by rw [List.map_append]; rfl
  constructor
  · rw [e]
    exact List.pairwise_append.mpr ⟨h.apart, List.pairwise_singleton _ _, fun a h1 b h2 q => by
      rw [List.mem_singleton] at h2
      subst h2
      have h3 := ((h.mem a).mp h1).1
      have := kf_inj ha hx h3 q
      subst this
      exact hn h1⟩
  · intro c
    rw [e, List.mem_append, List.mem_singleton, h.mem c]
    constructor
    · rintro (⟨h1, h2⟩ | rfl)
      · exact ⟨h1, by rw [h2]; rfl⟩
      · exact ⟨hx, by rw [KK.self (hw _ hx)]; simp⟩
    · rintro ⟨h1, h2⟩
      rcases gone ha hw hx h1 h2 with q | q
      · exact .inl ⟨h1, q⟩
      · exact .inr q
theorem nodup_len {α : Type} [DecidableEq α] : ∀ (K B : List α), K.Nodup → (∀ x ∈ K, x ∈ B) → K.length ≤ B.length
  | [], _, _, _ => Nat.zero_le _
  | a :: K, B, hn, hs => by
    rw [List.nodup_cons] at hn
    have h1 : a ∈ B := hs a (by simp)
    have h2 := nodup_len K (B.erase a) hn.2 (fun x hx => by rw [List.mem_erase_of_ne (by rintro rfl; exact hn.1 hx)]; exact hs x (by simp [hx]))
    rw [List.length_erase_of_mem h1] at h2
    have := List.length_pos_of_mem h1
    simp only [List.length_cons]
    omega
theorem apart_nodup {L : List Hd} (h : L.Pairwise fun a b => kf a ≠ kf b) : L.Nodup := List.Pairwise.imp (fun {a b} (q : kf a ≠ kf b) (e : a = b) => q (by rw [e])) h
open Classical in
theorem Coll.len {H : List Hd} {A : List Hp} {left : Lit → Bool} (h : Coll H left A) : A.length ≤ H.length := by
  have := nodup_len (A.map toH) H (apart_nodup h.apart) (fun c hc => ((h.mem c).mp hc).1)
  simpa using this
theorem Coll.done {H : List Hd} {A : List Hp} {left : Lit → Bool} (h : Coll H left A) (hl : ∀ k, left k = false) : ∀ c, c ∈ A.map toH ↔ c ∈ H := fun c => by rw [h.mem c, hl]; simp
theorem sort_none (p : Option Addr) (cap : Nat) (fv : Value) (w : World) : Calls Try.prog 33 #[.slice p 0 cap, fv] w fun e w' => e = .returned (.tuple #[]) ∧ w' = w :=
  Go.Proofs.AnyF.slices_SortFunc_none { sortC with } p cap fv w
/-- The sort of what was found. -/
theorem sort_found (base : Nat) (ok : Nat → Prop) (v : Value) (A : List Hp) (L : List Hd) (w : World) (hR : k57.R 57 w base ok v A) (hn : (A.map toH).Pairwise fun a b => kf a ≠ kf b) (hm : ∀ c, c ∈ A.map toH ↔ c ∈ L) (hL : SortH L) (hl : A.length ≤ 100000) (hll : A.length = L.length) :
    Calls Try.prog 33 #[v, .func (.func 34) #[] #[]] w fun e w' => e = .returned (.tuple #[]) ∧ k57.R 57 w' base ok v (L.map toP) ∧ w.grownBy w' v.ownBlock := by
  rcases row_open hR with ⟨rfl, rfl⟩ | ⟨g, cap, cur, rfl, hb, ho, hg, hsz, h1, h2, hc⟩
  · have hL0 : L = [] := List.length_eq_zero_iff.mp hll.symm
    subst hL0
    refine (sort_none none 0 _ w).mono ?_
    rintro e w' ⟨he, rfl⟩
    exact ⟨he, hR, ⟨rfl, rfl, rfl, Nat.le_refl _, fun _ _ _ => rfl⟩⟩
  · have hH := holds_of hg hc
    have := sort_calls g 0 cap A.toArray w hH (blk_lt hg) (by simp; omega)
    rw [show A.toArray.size = A.length by simp] at this
    refine this.mono ?_
    rintro e w' ⟨he, d', n, os, hp, hs, rfl⟩
    have e1 := sorted_is (d := A.toArray) (L := L) (by simpa using hp) (by simpa using hs) (by simpa using hn) (by simpa using hm) hL
    subst e1
    obtain ⟨cur', g1, g2, g3⟩ := sort_block (L := L.map toP) n os hg (by simp; omega)
    refine ⟨he, ?_, sort_grown n os _⟩
    rw [hll, ← List.length_map (f := toP)]
    exact row_of g1 (by omega) (by simp; omega) h2 g3 hb ho
set_option maxHeartbeats 8000000 in
theorem List.calls_nil (w : World) : Calls Try.prog 15 #[.pointer none] w fun e w' => e = .returned (.slice none 0 0) ∧ Drawn0 w w' := by
  go_enter Try.func15, Try.ntmps15
  go_wp2
  go_ret
  exact ⟨rfl, Drawn0.refl _⟩
open Classical in
theorem len_eq {A : List Hp} {H : List Hd} (hn : (A.map toH).Pairwise fun a b => kf a ≠ kf b) (hm : ∀ c, c ∈ A.map toH ↔ c ∈ H) (hs : SortH H) : A.length = H.length := by
  have h1 := nodup_len (A.map toH) H (apart_nodup hn) (fun c hc => (hm c).mp hc)
  have h2 := nodup_len H (A.map toH) (apart_nodup hs.apart) (fun c hc => (hm c).mpr hc)
  rw [List.length_map] at h1 h2
  omega
set_option maxHeartbeats 16000000 in
theorem List.calls (p bt bh : Nat) (R : List Rs) (H : List Hd) (w : World) (h : PoolAt w p bt bh R H) :
    Calls Try.prog 15 #[.pointer (some ⟨p, 0, none⟩)] w fun e w' => ∃ v, e = .returned v ∧ k57.R 57 w' w.heap.size (fun _ => True) v (H.map toP) ∧ Below w.heap.size w w' := by
  have HP := Aside0.mk h
  have HG := Aside0.mk h.good
  have c1 : w.cell? ⟨p, 1, none⟩ = some (.map (some bh)) := blk_cell h.cell 1
  obtain ⟨D0, hown, hsays, hsz⟩ := h.held.own
  have HSY := Aside0.mk hsays
  have HST := Aside0.mk (show ∀ h ∈ H, Go.Maps.has D0 (KK.kl (kf h)) = true from fun h hh => by rw [hsays.has_ _ (HG.out.hwf h hh).1, fH_own HG.out.sorted.apart hh]; rfl)
  have hlt := h.held.lt
  have hln := HG.out.hlen
  have hw1 : ∀ h ∈ H, wfK (kf h) := fun h hh => (HG.out.hwf h hh).1
  have HW1 := Aside0.mk hw1
  clear h hsays hw1
  go_enter Try.func15, Try.ntmps15
  go_wp2_with (first
    | (at_range; refine wpList_range_own _ rfl _ 66 rfl 79 52 KK.law Try.underlying66 RV bh H.length D0 rfl hown ?_; intro w0 hrg0 hg0 hs0)
    | go_in)
  go_frame
  have HB0 := Aside0.mk (below_of_grown hg0)
  go_loopg [3] H.length (fun gg v3 wr => ∃ (left : Lit → Bool) (cnt : Nat) (A : List Hp), Aside0 (wr.ranges Try.prog 79 RV bh w.heap.size H.length D0 left cnt) ∧ Aside0 (Coll H left A) ∧ Aside0 (k57.R 57 wr w.heap.size (fun k => w.heap.size < k) v3 A) ∧ Aside0 (Below w.heap.size w wr) ∧ Aside0 (cnt ≤ gg))
  case atStart => exact ⟨_, _, [], ⟨hrg0⟩, ⟨Coll.start HST.out⟩, ⟨Kd.R_nil _ _ _ _ _⟩, HB0, ⟨by rw [hsz]; exact Nat.le_refl _⟩⟩
  case round =>
    obtain ⟨left, cnt, A, HR, HCo, HO, HB, HC⟩ := hrel
    have hrg := HR.out
    clear hown HB0 hrg0 hg0
    have hD := HSY.out
    go_wp2_with (first
      | (at_next; refine next_key KK rfl _ rfl bh w.heap.size H.length D0 (fH H) hD left cnt rfl hrg ?_ ?_)
      | go_in)
    · intro _ hl0
      have hcall := sort_found w.heap.size _ _ A H wr HO.out HCo.out.apart (HCo.out.done hl0) HG.out.sorted (Nat.le_trans HCo.out.len hln) (len_eq HCo.out.apart (HCo.out.done hl0) HG.out.sorted)
      have hown := HO.out.1
      have HOW := Aside0.mk hown
      clear hown
      go_wp2_with (go_at_call 33; refine hcall.mono ?_; rintro e w2 ⟨rfl, hR2, hg2⟩)
      go_ret
      refine ⟨u3, rfl, Kd.R_mono hR2 (fun _ _ => trivial), HB.out.trans ⟨hg2.os, hg2.tape, hg2.output, hg2.size, fun k hk => hg2.block k (Nat.lt_of_lt_of_le hk HB.out.size) (fun e => ?_)⟩⟩
      have := HOW.out k e.symm
      omega
    · intro x v w1 cnt1 hcame hen
      obtain ⟨y, hy, rfl, rfl⟩ := fH_mem hcame.mem
      have ekv : KK.kv (kf y) = .agg #[.int .i64 y.f0, .string y.f1] := rfl
      rw [ekv] at hen ⊢
      unfold nv at hen ⊢
      have hsz : w.heap.size < w1.heap.size := by rw [hcame.size]; exact hrg.lt
      have hB1 : Below w.heap.size w w1 := HB.out.grown hcame.grown HB.out.size (fun k e => by cases e; exact Nat.le_refl _)
      have HO1 := Aside0.mk (Kd.R_grown HO.out hcame.grown (fun k hk => by simp; omega))
      have HOW := Aside0.mk HO.out.1
      have HB1 := Aside0.mk hB1
      have HCM := Aside0.mk hcame
      have HY := Aside0.mk hy
      have hAl : A.length ≤ 100000 := Nat.le_trans HCo.out.len hln
      have hb2 : some bh ≠ u3.ownBlock := fun e => by have := HOW.out bh e.symm; omega
      have hr2 : some w.heap.size ≠ u3.ownBlock := fun e => by have := HOW.out _ e.symm; omega
      have HN := Aside0.mk (And.intro hb2 hr2)
      clear hcame hB1 hD hrg HR HO hb2 hr2 ekv hy
      go_upto_region 7 with (fail)
      obtain ⟨W, hW⟩ : ∃ W, W = (w1.alloc (.cells #[.int .i64 y.f0, .string y.f1] 79 (0, 0))).alloc (.cells #[.string y.f1, .int .i64 y.f2, .int .i64 y.f3] 52 (0, 0)) := ⟨_, rfl⟩
      have ka : W.heap[w1.heap.size]? = some (.cells #[.int .i64 y.f0, .string y.f1] 79 (0, 0)) := by rw [hW]; exact blk_alloc (blk_new w1 _) _
      have kb : W.heap[w1.heap.size + 1]? = some (.cells #[.string y.f1, .int .i64 y.f2, .int .i64 y.f3] 52 (0, 0)) := by
        rw [hW]
        have := blk_new (w1.alloc (.cells #[.int .i64 y.f0, .string y.f1] 79 (0, 0))) (.cells #[.string y.f1, .int .i64 y.f2, .int .i64 y.f3] 52 (0, 0))
        rwa [show (w1.alloc (.cells #[.int .i64 y.f0, .string y.f1] 79 (0, 0))).heap.size = w1.heap.size + 1 from by simp] at this
      have k0 : W.cell? ⟨w1.heap.size, 0, none⟩ = some (.int .i64 y.f0) := blk_cell ka 0
      have k1 : W.cell? ⟨w1.heap.size, 1, none⟩ = some (.string y.f1) := blk_cell ka 1
      have k2 : W.cell? ⟨w1.heap.size + 1, 1, none⟩ = some (.int .i64 y.f2) := blk_cell kb 1
      have k3 : W.cell? ⟨w1.heap.size + 1, 2, none⟩ = some (.int .i64 y.f3) := blk_cell kb 2
      have hbW : Below w1.heap.size w1 W := by rw [hW]; exact below_alloc (below_alloc (Below.refl _ _) _) _
      have HO2' := Aside0.mk (Kd.R_below HO1.out hbW)
      have HB2' := Aside0.mk (below_go HB1.out HB1.out.size hbW)
      have HR2' := Aside0.mk (HCM.out.ranges.kept (below_grown hbW none) (by simp) (by simp))
      have hsz2 : w.heap.size < W.heap.size := by rw [hW]; simp; omega
      rw [← hW]
      clear hW ka kb hbW
      go_wp2_with ((with_reducible refine gate_builtin (b := .append) (xs := #[.tmp 18, .tmp 28]) rfl ?_); at_builtin; refine Kd.R_append k57 (w0 := w) w.heap.size rfl (.tmp 18) (.tmp 28) 36 57 (.agg #[.int .i64 0, .string ⟨#[]⟩, .int .i64 0, .int .i64 0]) 40 rfl Try.underlying36 infoP rfl (by decide) (by omega) u3 A (toP y) [.int .i64 y.f0, .string y.f1, .int .i64 y.f2, .int .i64 y.f3] (fun k => w.heap.size < k) (fun _ => False) rfl rfl (k57_mkM _ _ _ (toP y)) (fun _ hk => hk.elim) ?aF ?aO ?aB ?aS ?aL ?_; (case aF => exact (fun k hk => by omega)); (case aO => exact HO2'.out); (case aB => exact HB2'.out); (case aS => omega); (case aL => omega); intro v2 w2 ho hb hg hat; have HO2 := Aside0.mk ho; have HB2 := Aside0.mk hb; have HG2 := Aside0.mk hg; clear ho hb hg hat)
      go_roundg cnt1
      case measure => have := HC.out; have := HCM.out.lt; omega
      case rel => exact ⟨_, cnt1, A ++ [toP y], ⟨HR2'.out.kept HG2.out HN.out.1 HN.out.2⟩, ⟨HCo.out.step HW1.out HG.out.sorted.apart HY.out HCM.out.left_⟩, HO2, HB2, ⟨Nat.le_refl _⟩⟩
end Go.Proofs.Ytgdnljhndjlefaa.QNeedFits
