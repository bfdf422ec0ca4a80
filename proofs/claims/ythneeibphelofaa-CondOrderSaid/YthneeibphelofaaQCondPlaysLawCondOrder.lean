/- The law CondOrder, walked: for every list of conditions it comes to true. Each theorem names its own conditions. -/
import Derived.Test.YthneeibphelofaaQCondPlaysCondKnown
namespace Go.Proofs.Ythneeibphelofaa.QCondPlays
open Go.RowKit Go.Proofs.Ythneeibphelofaa.PCondPlays Go.Proofs.YthneeibphelofaaW.PrintWords Go.Proofs.YthneeibphelofaaW.PrintLast Go.Proofs.YthneeibphelofaaW.PrintMore
set_option linter.unusedVariables false
set_option linter.unusedSimpArgs false
/-- Whether one can be. -/
def good (c : C) : Prop := ¬ (c.f0.size = 0 ∨ 20 < c.f0.size ∨ ¬ (1 ≤ c.f1 ∧ c.f1 ≤ 3652059))
/-- What a store holds behind so many additions. -/
def adds (l : List C) (L : List C) : List C := l.foldl addR L
theorem addR_room {L : List C} (c : C) (h : L.length < 128) : (∀ d, d ∈ addR L c ↔ d ∈ L ∨ (d = c ∧ good c)) ∧ (addR L c).length ≤ L.length + 1 := by
  unfold addR addE
  by_cases g : c.f0.size = 0 ∨ 20 < c.f0.size ∨ ¬ (1 ≤ c.f1 ∧ c.f1 ≤ 3652059)
  · rw [if_pos g, if_neg (by decide)]
    exact ⟨fun d => ⟨.inl, fun z => z.resolve_right (fun ⟨_, z⟩ => z g)⟩, by omega⟩
  · rw [if_neg g, if_neg (show ¬ (c ∉ L ∧ 128 ≤ L.length) from fun z => by omega), if_pos rfl]
    refine ⟨fun d => ?_, ?_⟩
    · rw [addL_mem]
      constructor
      · rintro (e | e)
        · exact .inr ⟨e, g⟩
        · exact .inl e
      · rintro (e | ⟨e, _⟩)
        · exact .inr e
        · exact .inl e
    · rw [addL_length]; split <;> omega
theorem adds_room : ∀ (l L : List C), L.length + l.length ≤ 128 → (∀ d, d ∈ adds l L ↔ d ∈ L ∨ (d ∈ l ∧ good d)) ∧ (adds l L).length ≤ L.length + l.length
  | [], L, _ => ⟨fun d => by simp [adds], by simp [adds]⟩
  | c :: l, L, h => by
    simp only [List.length_cons] at h
    obtain ⟨h1, h2⟩ := addR_room (L := L) c (by omega)
    obtain ⟨h3, h4⟩ := adds_room l (addR L c) (by omega)
    refine ⟨fun d => ?_, by simp only [List.length_cons]; show (adds l (addR L c)).length ≤ _; omega⟩
    show d ∈ adds l (addR L c) ↔ _
    rw [h3 d, h1 d, List.mem_cons]
    constructor
    · rintro ((e | ⟨e, g⟩) | ⟨e, g⟩)
      · exact .inl e
      · exact .inr ⟨.inl e, e ▸ g⟩
      · exact .inr ⟨.inr e, g⟩
    · rintro (e | ⟨e | e, g⟩)
      · exact .inl (.inl e)
      · exact .inl (.inr ⟨e, e ▸ g⟩)
      · exact .inr ⟨e, g⟩
theorem adds_snoc (l : List C) (c : C) (L : List C) : adds (l ++ [c]) L = addR (adds l L) c := by simp [adds, List.foldl_append]
theorem adds_take (l : List C) (i : Nat) (h : i < l.length) (L : List C) : adds (l.take (i + 1)) L = addR (adds (l.take i) L) l[i] := by
  rw [List.take_succ_eq_append_getElem h, adds_snoc]
set_option maxHeartbeats 8000000 in
set_option maxRecDepth 100000 in
theorem order_walk (A0 : Option Addr) (c0 : Nat) (l : List C) (w : World) (hl : Kd.C k29 w A0 l.length l) (hlc : l.length ≤ c0) (hwf : ∀ c ∈ l, wfC c) :
    Calls Try.prog 3 #[.slice A0 l.length c0] w fun e w' => e = .returned (.bool true) ∧ Below w.heap.size w w' := by
  have hn := fun (W : World) => New.calls W
  have hk := fun (W : World) => known.calls W
  have HL := Aside0.mk hl
  clear hl
  by_cases big : (l.length : Int) > 128
  · have b1 : decide ((128 : Int) < (l.length : Int)) = true := decide_eq_true big
    go_enter Try.func3, Try.ntmps3
    go_upto_region 2 with (go_at_call 8; refine (hn _).mono ?_; rintro e w1 ⟨s, b, rfl, hs, hb, hh, hB⟩)
    go_upto_region 3 with (go_at_call 8; refine (hn _).mono ?_; rintro e w2 ⟨t, q, rfl, ht, hq, hh2, hB2⟩)
    have hB3 := below_go hB hB.size hB2
    clear hB hB2 hh hh2
    go_wp2_with (go_at_call 9; refine (hk _).mono ?_; rintro e w3 ⟨rfl, hB4⟩)
    go_ret
    exact ⟨rfl, below_go hB3 hB3.size hB4⟩
  have b1 : decide ((128 : Int) < (l.length : Int)) = false := decide_eq_false big
  go_enter Try.func3, Try.ntmps3
  go_upto_region 2 with (go_at_call 8; refine (hn _).mono ?_; rintro e w1 ⟨s, b, rfl, hs, hb, hh, hB⟩)
  go_upto_region 3 with (go_at_call 8; refine (hn _).mono ?_; rintro e w2 ⟨t, q, rfl, ht, hq, hh2, hB2⟩)
  have hB3 := below_go hB hB.size hB2
  have hh1 := hh.below hB2
  have d1 : s ≠ q := by have := hh.lts; omega
  have d2 : b ≠ q := by have := hh.ltb; omega
  have d3 : t ≠ b := by have := hh.ltb; omega
  have hq' : w.heap.size ≤ q := Nat.le_trans hB.size hq
  have HB0 := Aside0.mk hB3
  have HH1 := Aside0.mk hh1
  have HH2 := Aside0.mk hh2
  clear hB hB2 hh hB3 hh1 hh2
  go_wp2
  go_loopg [5] l.length (fun gg v5 wr => ∃ i : Nat, i ≤ l.length ∧ l.length - i ≤ gg ∧ v5 = .int .i64 i ∧ Aside0 (Held wr s b (adds (l.take i) [])) ∧ Aside0 (Held wr t q (adds (l.reverse.take i) [])) ∧ Aside0 (Below w.heap.size w wr))
  case atStart => exact ⟨0, Nat.zero_le _, by omega, rfl, HH1, HH2, HB0⟩
  case round =>
    obtain ⟨i, hi, hg, rfl, H1, H2, HB⟩ := hrel
    clear HH1 HH2 HB0
    have hll : l.length ≤ 128 := by omega
    by_cases hlt : i < l.length
    rotate_left
    · have e : i = l.length := by omega
      have b2 : decide ((i : Int) < (l.length : Int)) = false := decide_eq_false (by omega)
      have r1 := adds_room (l.take i) [] (by simp; omega)
      have r2 := adds_room (l.reverse.take i) [] (by simp; omega)
      have hS : (adds (l.take i) []).length ≤ 1000 := by have := r1.2; simp at this; omega
      have hST : adds (l.reverse.take i) [] = adds (l.take i) [] := Sorted.ext H2.out.sorted H1.out.sorted (fun d => by
        rw [r1.1 d, r2.1 d, e, List.take_of_length_le (Nat.le_refl _), List.take_of_length_le (by simp)]
        simp)
      have h1 := H1.out
      have h2 := H2.out
      rw [hST] at h2
      generalize adds (l.take i) [] = S at h1 h2 hS
      have HH2 := Aside0.mk h2
      have hL1 := List.calls s b S wr h1 hS
      have hL2 := fun (W : World) (hW : Below wr.heap.size wr W) => List.calls t q S W (HH2.out.below hW) hS
      have KS := Aside0.mk (fun A1 A2 c1 c2 w1 => Same.calls S hS A1 A2 c1 c2 w1)
      clear h1 h2 r1 r2 hST H1 H2
      go_wp2_with (first | (go_at_call 12; first | ((with_reducible refine hL1.mono ?_); rintro e3 w3 ⟨v1, rfl, R1, B1⟩; obtain ⟨A1, k1, rfl, hk1, hC1⟩ := Kd.R_reads R1; have HC1 := Aside0.mk hC1; clear hL1 R1 hC1) | ((with_reducible refine (hL2 w3 B1).mono ?_); rintro e4 w4 ⟨v2, rfl, R2, B2⟩; obtain ⟨A2, k2, rfl, hk2, hC2⟩ := Kd.R_reads R2; have HC2 := Aside0.mk hC2; clear hL2 R2 hC2)) | (go_at_call 11; refine (KS.out _ _ _ _ _ (Kd.C_below HC1.out B2) hk1 HC2.out hk2).mono ?_; rintro e5 w5 ⟨rfl, B3⟩) | (go_at_call 9; refine (hk _).mono ?_; rintro e6 w6 ⟨rfl, B4⟩))
      go_ret
      exact ⟨rfl, below_go (below_go (below_go (below_go HB.out HB.out.size B1) (by have := HB.out.size; have := B1.size; omega) B2) (by have := HB.out.size; have := B1.size; have := B2.size; omega) B3.below) (by have := HB.out.size; have := B1.size; have := B2.size; have := B3.below.size; omega) B4⟩
    · have b2 : decide ((i : Int) < (l.length : Int)) = true := decide_eq_true (by omega)
      obtain ⟨ad, e, x0, x1⟩ := at_T29 HL.out (i : Int) (by omega) (by omega)
      obtain ⟨ad', e', y0, y1⟩ := at_T29 HL.out ((l.length : Int) - 1 - (i : Int)) (by omega) (by omega)
      cases e
      cases e'
      have hb1 := World.block_lt_of_cell? w _ x0
      have hb2 := World.block_lt_of_cell? w _ y0
      rw [Int.toNat_natCast] at hb1
      rw [show ((l.length : Int) - 1 - (i : Int)).toNat = l.length - 1 - i by omega] at hb2
      rw [rd_at l i hlt] at x0 x1
      rw [show ((l.length : Int) - 1 - (i : Int)) = ((l.length - 1 - i : Nat) : Int) by omega, rd_at l (l.length - 1 - i) (by omega)] at y0 y1
      rw [Int.toNat_natCast] at x0 x1 y0 y1
      have p2 : (0 : Int) ≤ (l.length : Int) - 1 - (i : Int) := by omega
      have q2 : (l.length : Int) - 1 - (i : Int) < (l.length : Int) := by omega
      have t2 : ((l.length : Int) - 1 - (i : Int)).toNat = l.length - 1 - i := by omega
      have HXY := Aside0.mk (fun (W : World) (hW : Below w.heap.size w W) => And.intro ((hW.cell (p := ad.add (i * 2)) hb1).trans x0) (And.intro ((hW.cell (p := ⟨(ad.add (i * 2)).block, (ad.add (i * 2)).off + 1, none⟩) hb1).trans x1) (And.intro ((hW.cell (p := ad.add ((l.length - 1 - i) * 2)) hb2).trans y0) ((hW.cell (p := ⟨(ad.add ((l.length - 1 - i) * 2)).block, (ad.add ((l.length - 1 - i) * 2)).off + 1, none⟩) hb2).trans y1))))
      clear x0 x1 y0 y1
      obtain ⟨x0, x1, y0, y1⟩ := HXY.out wr HB.out
      have r1 := adds_room (l.take i) [] (by simp; omega)
      have r2 := adds_room (l.reverse.take i) [] (by simp; omega)
      have hA1 := Add.calls s b _ l[i] (hwf _ (List.getElem_mem _)) wr H1.out (by have := r1.2; simp at this; omega)
      have hx1 := H1.out
      have hx2 := H2.out
      have hR1 : ∀ d, d ∈ l.reverse.take i → d ∈ l := fun d hd => by simpa using List.mem_of_mem_take hd
      have hA2 := fun (W : World) (h : Held W t q (adds (l.reverse.take i) [])) => Add.calls t q _ l[l.length - 1 - i] (hwf _ (List.getElem_mem _)) W h (by have := r2.2; simp at this; omega)
      have e1 := adds_take l i hlt []
      have e2 := adds_take l.reverse i (by simpa using hlt) []
      rw [show l.reverse[i]'(by simpa using hlt) = l[l.length - 1 - i] from by rw [List.getElem_reverse]] at e2
      rw [← e1] at hA1
      rw [← e2] at hA2
      have E1 := Aside0.mk e1
      clear r1 r2 e1 e2 hR1 hx1 E1
      have H2' := Aside0.mk hx2
      generalize l[i] = xi at *
      generalize l[l.length - 1 - i] = yi at *
      clear hx2 H1
      go_wp2_with (go_at_call 10; first | ((with_reducible refine hA1.mono ?_); rintro e3 w3 ⟨rfl, h3, g3⟩; have B3 := HB.out.trans (grown_below g3 hb HB.out.size); clear hA1 x0 x1 y0 y1; obtain ⟨_, _, y0, y1⟩ := HXY.out w3 B3; have G3 := Aside0.mk g3; clear g3) | ((with_reducible refine (hA2 w3 (H2'.out.kept G3.out (by simpa using d3) (by simpa using d2.symm))).mono ?_); rintro e4 w4 ⟨rfl, h4, g4⟩; have B4 := B3.trans (grown_below g4 hq' B3.size)))
      go_roundg (l.length - (i + 1))
      case measure => omega
      case rel => exact ⟨i + 1, by omega, Nat.le_refl _, by go_num, ⟨h3.kept g4 (by simpa using d1) (by simpa using d2)⟩, ⟨h4⟩, ⟨B4⟩⟩
end Go.Proofs.Ythneeibphelofaa.QCondPlays
