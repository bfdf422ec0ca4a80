/- Whether two lists of conditions are alike; the fixed calls. No conditions beyond those that each theorem names. -/
import Derived.Test.YthneeibphelofaaQCondPlaysCondList
namespace Go.Proofs.Ythneeibphelofaa.QCondPlays
open Go.RowKit Go.Proofs.Ythneeibphelofaa.PCondPlays Go.Proofs.YthneeibphelofaaW.PrintWords Go.Proofs.YthneeibphelofaaW.PrintLast Go.Proofs.YthneeibphelofaaW.PrintMore
set_option linter.unusedVariables false
set_option linter.unusedSimpArgs false
theorem rd_at (L : List C) (i : Nat) (h : i < L.length) : rd_T29 L (i : Int) = L[i] := by
  unfold rd_T29
  rw [Int.toNat_natCast, List.getD_eq_getElem?_getD, List.getElem?_eq_getElem h]
  rfl
theorem same_l0 (L : List C) (hl : L.length ≤ 1000) : ∀ (d i k : Nat), i + d = L.length → d + 1 ≤ k → dayshiftref11_Same.l0 k L L (i : Int) = some true := by
  intro d
  induction d with
  | zero =>
    intro i k hi hk
    obtain ⟨k, rfl⟩ : ∃ q, k = q + 1 := ⟨k - 1, by omega⟩
    rw [dayshiftref11_Same.l0.eq_2, if_neg (by omega)]
  | succ d ih =>
    intro i k hi hk
    obtain ⟨k, rfl⟩ : ∃ q, k = q + 1 := ⟨k - 1, by omega⟩
    rw [dayshiftref11_Same.l0.eq_2, if_pos (by omega), if_pos (by omega), if_pos (by omega), if_neg (by simp), wrap64_id (by omega) (by omega)]
    exact ih (i + 1) k (by omega) (by omega)
theorem same_is (L : List C) (hl : L.length ≤ 1000) : dayshiftref11_Same.f 1001 L L = some true := by
  unfold dayshiftref11_Same.f
  rw [if_pos rfl]
  exact same_l0 L hl L.length 0 1001 (by omega) (by omega)
theorem Same.calls (L : List C) (hl : L.length ≤ 1000) (A1 A2 : Option Addr) (c1 c2 : Nat) (w : World) (h1 : Kd.C k29 w A1 L.length L) (h1c : L.length ≤ c1) (h2 : Kd.C k29 w A2 L.length L) (h2c : L.length ≤ c2) :
    Calls Try.prog 11 #[.slice A1 L.length c1, .slice A2 L.length c2] w fun e w' => e = .returned (.bool true) ∧ Drawn0 w w' := dayshiftref11_Same.calls 1001 A1 c1 L A2 c2 L true w h1 h1c h2 h2c (same_is L hl)
abbrev a9 : C := ⟨⟨#[97]⟩, 9⟩
abbrev b3 : C := ⟨⟨#[98]⟩, 3⟩
abbrev b5 : C := ⟨⟨#[98]⟩, 5⟩
theorem bl1 : ltC a9 b5 = true := by unfold ltC; rw [toList_data, toList_data]; decide
theorem bl2 : ltC a9 b3 = true := by unfold ltC; rw [toList_data, toList_data]; decide
theorem bl3 : ltC b3 a9 = false := by unfold ltC; rw [toList_data, toList_data]; decide
theorem bl4 : ltC b3 b5 = true := by unfold ltC; rw [toList_data]; decide
theorem r1 : addE [] b5 = 0 ∧ addR [] b5 = [b5] := by
  have h : addE [] b5 = 0 := by decide
  exact ⟨h, by unfold addR; rw [if_pos h]; rfl⟩
theorem r2 : addE [b5] a9 = 0 ∧ addR [b5] a9 = [a9, b5] := by
  have h : addE [b5] a9 = 0 := by decide
  refine ⟨h, ?_⟩
  unfold addR addL
  rw [if_pos h, if_neg (by decide), ins, if_pos bl1]
theorem r3 : addE [a9, b5] b3 = 0 ∧ addR [a9, b5] b3 = [a9, b3, b5] := by
  have h : addE [a9, b5] b3 = 0 := by decide
  refine ⟨h, ?_⟩
  unfold addR addL
  rw [if_pos h, if_neg (by decide), ins, if_neg (by rw [bl3]; decide), ins, if_pos bl4]
theorem f1 : ([a9, b3, b5].filter fun c => decide (c.f1 < 5)) = [b3] := by decide
theorem f2 : ([a9, b3, b5].filter fun c => !decide (c.f1 < 5)) = [a9, b5] := by decide
theorem wfs : wfC a9 ∧ wfC b3 ∧ wfC b5 := ⟨⟨by decide, by decide⟩, ⟨by decide, by decide⟩, ⟨by decide, by decide⟩⟩
theorem row3 {w : World} {g : Nat} (h : w.heap[g]? = some (.cells #[.string ⟨#[97]⟩, .int .i64 9, .string ⟨#[98]⟩, .int .i64 3, .string ⟨#[98]⟩, .int .i64 5] 29 (0, 0))) : Kd.C k29 w (some ⟨g, 0, none⟩) [a9, b3, b5].length [a9, b3, b5] :=
  C_of_block k29 h (by simp) ((((Reps.none _ _).snoc (k29_mk w a9) rfl).snoc (k29_mk w b3) rfl).snoc (k29_mk w b5) rfl)

theorem add_to (s b : Nat) (L M : List C) (c : C) (hc : wfC c) (w : World) (h : Held w s b L) (hl : L.length ≤ 1000) (hr : addE L c = 0 ∧ addR L c = M) : Calls Try.prog 10 #[.pointer (some ⟨s, 0, none⟩), .agg #[.string c.f0, .int .i64 c.f1]] w fun e w' => e = .returned (.int .i64 0) ∧ Held w' s b M ∧ w.grownBy w' (some b) := by
  have := Add.calls s b L c hc w h hl
  rw [hr.1, hr.2] at this
  exact this
theorem clean_it (s b : Nat) (w : World) (h : Held w s b [a9, b3, b5]) : Calls Try.prog 13 #[.pointer (some ⟨s, 0, none⟩), .int .i64 5] w fun e w' => e = .returned (.int .i64 1) ∧ Held w' s b [a9, b5] ∧ w.grownBy w' (some b) := by
  have := Clean.calls s b _ 5 w h (by decide)
  rw [f1, f2] at this
  exact this
set_option maxHeartbeats 8000000 in
set_option maxRecDepth 100000 in
theorem known.calls (w : World) : Calls Try.prog 9 #[] w fun e w' => e = .returned (.bool true) ∧ Below w.heap.size w w' := by
  have hnew := New.calls w
  obtain ⟨wa, wb3, wb5⟩ := wfs
  have k1 := fun s b w1 (h : Held w1 s b []) => add_to s b [] [b5] b5 wb5 w1 h (by decide) r1
  have k2 := fun s b w1 (h : Held w1 s b [b5]) => add_to s b [b5] [a9, b5] a9 wa w1 h (by decide) r2
  have k3 := fun s b w1 (h : Held w1 s b [a9, b5]) => add_to s b [a9, b5] [a9, b3, b5] b3 wb3 w1 h (by decide) r3
  have kl := fun s b w1 (h : Held w1 s b [a9, b3, b5]) => List.calls s b _ w1 h (by decide)
  have kn := fun s b w1 (h : Held w1 s b [a9, b5]) => Len.calls s b _ w1 h
  have KS := Aside0.mk (fun A1 A2 c1 c2 w1 => Same.calls [a9, b3, b5] (by decide) A1 A2 c1 c2 w1)
  go_enter Try.func9, Try.ntmps9
  go_wp2_with (first | (go_at_call 8; refine hnew.mono ?_; rintro e w1 ⟨s, b, rfl, hs, hb, hh, hB⟩; clear hnew) | (go_at_call 10; first | ((with_reducible refine (k1 s b _ hh).mono ?_); rintro e w2 ⟨rfl, hh2, hg⟩; have hB2 := hB.trans (grown_below hg hb hB.size); clear hh hg hB k1) | ((with_reducible refine (k2 s b _ hh2).mono ?_); rintro e w3 ⟨rfl, hh3, hg⟩; have hB3 := hB2.trans (grown_below hg hb hB2.size); clear hh2 hg hB2 k2) | ((with_reducible refine (k3 s b _ hh3).mono ?_); rintro e w4 ⟨rfl, hh4, hg⟩; have hB4 := hB3.trans (grown_below hg hb hB3.size); clear hh3 hg hB3 k3)) | (go_at_call 12; refine (kl s b _ (hh4.below (below_alloc (Below.refl _ _) _))).mono ?_; rintro e w5 ⟨v, rfl, hR, hb5'⟩; obtain ⟨A1, cc1, rfl, hc1, hC1⟩ := Kd.R_reads hR; have hb5 : Below w4.heap.size w4 w5 := below_go (below_alloc (Below.refl _ _) _) (by simp) hb5'; have hrow := row3 (blk_below (blk_new w4 _) hb5'); have hh5 := hh4.below hb5; have hB5 := hB4.trans (hb5.mono hB4.size); have HC1 := Aside0.mk hC1; have HRW := Aside0.mk hrow; clear hR hb5' hb5 hh4 hB4 kl hC1 hrow) | (go_at_call 11; refine (KS.out _ _ _ _ _ HC1.out hc1 HRW.out (by decide)).mono ?_; rintro e w6 ⟨rfl, hd6⟩; have hh6 := hh5.below hd6.below; have hB6 := hB5.trans (hd6.below.mono hB5.size); clear hh5 hB5 hd6) | (go_at_call 13; refine (clean_it s b _ hh6).mono ?_; rintro e w7 ⟨rfl, hh7, hg⟩; have hB7 := hB6.trans (grown_below hg hb hB6.size); clear hh6 hg hB6) | (go_at_call 15; refine (kn s b _ hh7).mono ?_; rintro e w8 ⟨rfl, hd8⟩; have hB8 := hB7.trans (hd8.below.mono hB7.size); clear hh7 hB7 hd8))
  go_ret
  exact ⟨rfl, hB8⟩
end Go.Proofs.Ythneeibphelofaa.QCondPlays
