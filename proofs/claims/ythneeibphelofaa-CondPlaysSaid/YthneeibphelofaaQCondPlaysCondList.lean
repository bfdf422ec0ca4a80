/- A store of conditions: the list of all. No conditions beyond those that each theorem names. -/
import Derived.Test.YthneeibphelofaaQCondPlaysCondRow
import Derived.Test.YthneeibphelofaaQCondPlaysCondDrop
import Derived.Shelf.SlSortCmp.NoneTotal
namespace Go.Proofs.Ythneeibphelofaa.QCondPlays
open Go.RowKit Go.Proofs.Ythneeibphelofaa.PCondPlays Go.Proofs.YthneeibphelofaaW.PrintWords Go.Proofs.YthneeibphelofaaW.PrintLast Go.Proofs.YthneeibphelofaaW.PrintMore
set_option linter.unusedVariables false
set_option linter.unusedSimpArgs false
theorem below_go {B : Nat} {W w1 w2 : World} (h : Below B W w1) (hB : B ≤ w1.heap.size) (h2 : Below w1.heap.size w1 w2) : Below B W w2 := h.trans (h2.mono hB)
theorem infoC : (Try.prog.info? 29).map (fun i => (i.zero, i.size, i.bytes)) = some (some (.agg #[.string ⟨#[]⟩, .int .i64 0]), 2, 24) := by kernel_rfl
/-- What has come so far. -/
structure Coll (L : List C) (left : Lit → Bool) (A : List C) : Prop where
  nodup : A.Nodup
  mem : ∀ c, c ∈ A ↔ c ∈ L ∧ left (kl c) = false
theorem Coll.start {D : DataW Unit} {L : List C} (h : Is D L) : Coll L (Go.Maps.has D) [] :=
  ⟨List.nodup_nil, fun c => ⟨fun hc => (by cases hc), fun ⟨h1, h2⟩ => by rw [h.has_ c (h.wf c h1), decide_eq_true h1] at h2; cases h2⟩⟩
theorem Coll.step {L A : List C} {left : Lit → Bool} (h : Coll L left A) (hw : ∀ c ∈ L, wfC c) {x : C} (hx : x ∈ L) (hl : left (kl x) = true) : Coll L (fun z => left z && !z.sameKey (kl x)) (A ++ [x]) := by
  have hn : x ∉ A := fun hm => by have := ((h.mem x).mp hm).2; rw [hl] at this; cases this
  refine ⟨List.nodup_append.mpr ⟨h.nodup, by simp, fun a ha b hb => by rw [List.mem_singleton.mp hb]; rintro rfl; exact hn ha⟩, fun c => ?_⟩
  rw [List.mem_append, List.mem_singleton, h.mem c]
  constructor
  · rintro (⟨h1, h2⟩ | rfl)
    · exact ⟨h1, by rw [h2]; rfl⟩
    · exact ⟨hx, by rw [same_self (hw _ hx)]; simp⟩
  · rintro ⟨h1, h2⟩
    by_cases e : c = x
    · exact .inr e
    · left
      rw [same_ne (hw c h1) (hw x hx) e] at h2
      exact ⟨h1, by simpa using h2⟩
theorem nodup_len {α : Type} [DecidableEq α] : ∀ (K B : List α), K.Nodup → (∀ x ∈ K, x ∈ B) → K.length ≤ B.length
  | [], _, _, _ => Nat.zero_le _
  | a :: K, B, hn, hs => by
    rw [List.nodup_cons] at hn
    have h1 : a ∈ B := hs a (by simp)
    have h2 := nodup_len K (B.erase a) hn.2 (fun x hx => by rw [List.mem_erase_of_ne (by rintro rfl; exact hn.1 hx)]; exact hs x (by simp [hx]))
    rw [List.length_erase_of_mem h1] at h2
    have := List.length_pos_of_mem h1
    simp only [List.length_cons]
    omega
theorem Coll.len {L A : List C} {left : Lit → Bool} (h : Coll L left A) (hn : L.Nodup) : A.length ≤ L.length := by
  exact nodup_len A L h.nodup (fun c hc => ((h.mem c).mp hc).1)
theorem Coll.done {L A : List C} {left : Lit → Bool} (h : Coll L left A) (hl : ∀ k, left k = false) : ∀ c, c ∈ A ↔ c ∈ L := fun c => by rw [h.mem c, hl]; simp
theorem sort_none (p : Option Addr) (cap : Nat) (fv : Value) (w : World) : Calls Try.prog 25 #[.slice p 0 cap, fv] w fun e w' => e = .returned (.tuple #[]) ∧ w' = w :=
  Go.Proofs.AnyF.slices_SortFunc_none { sortC with } p cap fv w
/-- The sort of what was found. -/
theorem sort_found (base : Nat) (ok : Nat → Prop) (v : Value) (A L : List C) (w : World) (hR : k29.R 29 w base ok v A) (hn : A.Nodup) (hm : ∀ c, c ∈ A ↔ c ∈ L) (hL : Sorted L) (hl : A.length ≤ 1000) :
    Calls Try.prog 25 #[v, .func (.func 26) #[] #[]] w fun e w' => e = .returned (.tuple #[]) ∧ k29.R 29 w' base ok v L ∧ w.grownBy w' v.ownBlock := by
  rcases row_open hR with ⟨rfl, rfl⟩ | ⟨g, cap, cur, rfl, hb, ho, hg, hsz, h1, h2, hc⟩
  · have hL0 : L = [] := by
      cases L with
      | nil => rfl
      | cons a r => have := (hm a).mpr (by simp); cases this
    subst hL0
    refine (sort_none none 0 _ w).mono ?_
    rintro e w' ⟨he, rfl⟩
    exact ⟨he, hR, ⟨rfl, rfl, rfl, Nat.le_refl _, fun _ _ _ => rfl⟩⟩
  · have hH := holds_of hg hc
    have hlen : A.length = L.length := by
      have : A.Perm L := (List.perm_ext_iff_of_nodup hn hL.nodup).mpr hm
      exact this.length_eq
    have := sort_calls g 0 cap A.toArray w hH (blk_lt hg) (by simp; omega)
    rw [show A.toArray.size = A.length by simp] at this
    refine this.mono ?_
    rintro e w' ⟨he, d', n, os, hp, hs, rfl⟩
    have e1 := sorted_is (d := A.toArray) (L := L) (by simpa using hp) (by simpa using hs) (by simpa using hn) (by simpa using hm) hL
    subst e1
    obtain ⟨cur', g1, g2, g3⟩ := sort_block (L := L) n os hg (by omega)
    refine ⟨he, ?_, sort_grown n os _⟩
    rw [hlen]
    exact row_of g1 (by omega) (by omega) h2 g3 hb ho
set_option maxHeartbeats 8000000 in
set_option maxRecDepth 100000 in
theorem List.calls (s b : Nat) (L : List C) (w : World) (h : Held w s b L) (hlen : L.length ≤ 1000) :
    Calls Try.prog 12 #[.pointer (some ⟨s, 0, none⟩)] w fun e w' => ∃ v, e = .returned v ∧ k29.R 29 w' w.heap.size (fun _ => True) v L ∧ Below w.heap.size w w' := by
  obtain ⟨D0, hown, hi0⟩ := h.own
  have h0 := h.cell0
  have HH := Aside0.mk h
  have hlt := h.ltb
  have hwf := h.wf
  have HI := Aside0.mk hi0
  clear h
  go_enter Try.func12, Try.ntmps12
  go_wp2_with (first
    | (at_range; refine wpList_range_own _ rfl _ 49 rfl 29 4 klaw Try.underlying49 _ b L.length D0 rfl hown ?_; intro w0 hrg0 hg0 hs0)
    | go_in)
  go_frame
  have HB0 := Aside0.mk (show Below w.heap.size w w0 from ⟨hg0.os, hg0.tape, hg0.output, hg0.size, fun k hk => hg0.block k hk (by simp)⟩)
  go_loopg [3] L.length (fun gg v3 wr => ∃ (left : Lit → Bool) (cnt : Nat) (A : List C), Aside0 (wr.ranges Try.prog 29 (plainElem Try.prog 4) b w.heap.size L.length D0 left cnt) ∧ Aside0 (Coll L left A) ∧ Aside0 (k29.R 29 wr w.heap.size (fun k => w.heap.size < k) v3 A) ∧ Aside0 (Below w.heap.size w wr) ∧ Aside0 (cnt ≤ gg))
  case atStart => exact ⟨_, _, [], ⟨hrg0⟩, ⟨Coll.start HI.out⟩, ⟨Kd.R_nil _ _ _ _ _⟩, HB0, ⟨by rw [HI.out.size_]; exact Nat.le_refl _⟩⟩
  case round =>
    obtain ⟨left, cnt, A, HR, HCo, HO, HB, HC⟩ := hrel
    have hrg := HR.out
    clear hown HB0 hrg0 hg0
    have hD := HI.out
    go_wp2_with (first
      | (at_next; refine next_cond rfl _ rfl b w.heap.size L.length D0 L hD left cnt rfl hrg ?_ ?_)
      | go_in)
    · intro _ hl0
      have hcall := sort_found w.heap.size _ _ A L wr HO.out HCo.out.nodup (HCo.out.done hl0) HI.out.sorted (Nat.le_trans (HCo.out.len HI.out.sorted.nodup) hlen)
      have hown := HO.out.1
      have HOW := Aside0.mk hown
      clear hown
      go_wp2_with (go_at_call 25; refine hcall.mono ?_; rintro e w2 ⟨rfl, hR2, hg2⟩)
      go_ret
      refine ⟨u3, rfl, Kd.R_mono hR2 (fun _ _ => trivial), HB.out.trans ⟨hg2.os, hg2.tape, hg2.output, hg2.size, fun k hk => hg2.block k (Nat.lt_of_lt_of_le hk HB.out.size) (fun e => ?_)⟩⟩
      have := HOW.out k e.symm
      omega
    · intro x w1 cnt1 hcame hen
      have hsz : w.heap.size < w1.heap.size := by rw [hcame.size]; exact hrg.lt
      have hB1 : Below w.heap.size w w1 := HB.out.trans ⟨hcame.grown.os, hcame.grown.tape, hcame.grown.output, hcame.grown.size, fun k hk => hcame.grown.block k (Nat.lt_of_lt_of_le hk HB.out.size) (by simp; omega)⟩
      have HO1 := Aside0.mk (Kd.R_grown HO.out hcame.grown (fun k hk => by simp; omega))
      have HOW := Aside0.mk HO.out.1
      have HB1 := Aside0.mk hB1
      have HCM := Aside0.mk hcame
      have HRG := Aside0.mk hrg
      have hAl : A.length ≤ 1000 := Nat.le_trans (HCo.out.len HI.out.sorted.nodup) hlen
      have hb2 : some b ≠ u3.ownBlock := fun e => by have := HOW.out b e.symm; omega
      have hr2 : some w.heap.size ≠ u3.ownBlock := fun e => by have := HOW.out _ e.symm; omega
      have HN := Aside0.mk (And.intro hb2 hr2)
      clear hcame hB1 hD hrg HR HO hb2 hr2
      go_upto_region 7 with (fail)
      obtain ⟨W, hW⟩ : ∃ W, W = w1.alloc (.cells #[.string x.f0, .int .i64 x.f1] 29 (0, 0)) := ⟨_, rfl⟩
      have kb : W.heap[w1.heap.size]? = some (.cells #[.string x.f0, .int .i64 x.f1] 29 (0, 0)) := by rw [hW]; exact blk_new _ _
      have k0 : W.cell? ⟨w1.heap.size, 0, none⟩ = some (.string x.f0) := blk_cell kb 0
      have k1 : W.cell? ⟨w1.heap.size, 1, none⟩ = some (.int .i64 x.f1) := blk_cell kb 1
      have hO2 := Kd.R_alloc HO1.out (.cells #[.string x.f0, .int .i64 x.f1] 29 (0, 0))
      have hB2 := below_alloc HB1.out (.cells #[.string x.f0, .int .i64 x.f1] 29 (0, 0))
      have hR2 := HCM.out.ranges.alloc (.cells #[.string x.f0, .int .i64 x.f1] 29 (0, 0))
      have hsz2 : w.heap.size < W.heap.size := by rw [hW]; simp; omega
      rw [← hW] at hO2 hB2 hR2 ⊢
      have HO2' := Aside0.mk hO2
      have HB2' := Aside0.mk hB2
      have HR2' := Aside0.mk hR2
      clear hW hO2 hB2 hR2 kb
      go_wp2_with ((with_reducible refine gate_builtin (b := .append) (xs := #[.tmp 16, .tmp 18]) rfl ?_); at_builtin; refine Kd.R_append k29 (w0 := w) w.heap.size rfl (.tmp 16) (.tmp 18) 22 29 (.agg #[.string ⟨#[]⟩, .int .i64 0]) 24 rfl Try.underlying22 infoC rfl (by decide) (by omega) u3 A x [.string x.f0, .int .i64 x.f1] (fun k => w.heap.size < k) (fun _ => False) rfl rfl (k29_mkM _ _ _ x) (fun _ hk => hk.elim) ?aF ?aO ?aB ?aS ?aL ?_; (case aF => exact (fun k hk => by omega)); (case aO => exact HO2'.out); (case aB => exact HB2'.out); (case aS => omega); (case aL => omega); intro v2 w2 ho hb hg hat; have HO2 := Aside0.mk ho; have HB2 := Aside0.mk hb; have HG2 := Aside0.mk hg; clear ho hb hg hat)
      go_roundg cnt1
      case measure => have := HC.out; have := HCM.out.lt; omega
      case rel => exact ⟨_, cnt1, A ++ [x], ⟨HR2'.out.kept HG2.out HN.out.1 HN.out.2⟩, ⟨HCo.out.step hwf HCM.out.mem HCM.out.left_⟩, HO2, HB2, ⟨Nat.le_refl _⟩⟩
end Go.Proofs.Ythneeibphelofaa.QCondPlays
