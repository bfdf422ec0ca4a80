/- The first days of fiscal periods in a month, as bits; and every node that can be walked over has a month's days. No conditions beyond those that each theorem names. -/
import Derived.Test.YtpcjbnaggeiaoaaDoorQCalMovedCalTot3
namespace Go.Proofs.YtpcjbnaggeiaoaaDoor.QCalMoved
open Go.RowKit Go.Proofs.YtpcjbnaggeiaoaaDoor.PCalMoved Go.Proofs.YtpcjbnaggeiaoaaDoorW.PrintWords Go.Proofs.YtpcjbnaggeiaoaaDoorW.PrintLast Go.Proofs.YtpcjbnaggeiaoaaDoorW.PrintMore Go.Proofs.YtpcjbnaggeiaoaaDoor.MDate Go.Proofs.YtpcjbnaggeiaoaaDoor.MBits
set_option linter.unusedVariables false
set_option linter.unusedSimpArgs false
/-! ### Fiscal periods -/
def wsOf (p : Int) : List Int := if p = 445 then [4, 4, 5] else if p = 454 then [4, 5, 4] else [5, 4, 4]
theorem pat_eq (p : Int) (h : p = 445 ∨ p = 454 ∨ p = 544) : ([wrap64 (Int.tdiv p 100), Int.tmod (wrap64 (Int.tdiv p 10)) 10, Int.tmod p 10] : List Int) = wsOf p := by
  have e (x : Int) (h1 : 0 ≤ x) (h2 : x ≤ 100) : wrap64 x = x := wrap64_id (by omega) (by omega)
  rcases h with rfl | rfl | rfl
  · rw [show Int.tdiv 445 100 = 4 from by decide, show Int.tdiv 445 10 = 44 from by decide, e 4 (by omega) (by omega), e 44 (by omega) (by omega)]; decide
  · rw [show Int.tdiv 454 100 = 4 from by decide, show Int.tdiv 454 10 = 45 from by decide, e 4 (by omega) (by omega), e 45 (by omega) (by omega)]; decide
  · rw [show Int.tdiv 544 100 = 5 from by decide, show Int.tdiv 544 10 = 54 from by decide, e 5 (by omega) (by omega), e 54 (by omega) (by omega)]; decide
def poss : List Int → Int → List Int
  | [], _ => []
  | w :: r, a => a :: poss r (a + 7 * w)
def after : List Int → Int → Int
  | [], a => a
  | w :: r, a => after r (a + 7 * w)
theorem poss_append : ∀ (x y : List Int) (a : Int), poss (x ++ y) a = poss x a ++ poss y (after x a)
  | [], y, a => rfl
  | w :: r, y, a => by rw [List.cons_append, poss, poss, after, poss_append r y, List.cons_append]
theorem after_bd : ∀ (x : List Int) (a : Int), (∀ w ∈ x, 0 ≤ w ∧ w ≤ 9) → a ≤ after x a ∧ after x a ≤ a + 63 * x.length
  | [], a, _ => by simp [after]
  | w :: r, a, h => by
    have h1 := h w (by simp)
    have h2 := after_bd r (a + 7 * w) (fun v hv => h v (by simp [hv]))
    rw [after, List.length_cons]
    omega
def hitF (ov nx f g : Int) (i : Nat) (pos : Int) : Bool := (decide (ov ≠ 0) || decide (pos < nx)) && (decide (pos = f + (i : Int)) && decide ((i : Int) < g))
theorem fisc_l2 {f g : Int} (h : Span f g) (p mo yy z nx ov q : Int) (ws : List Int) (hw : ∀ w ∈ ws, 0 ≤ w ∧ w ≤ 9) (hl : ws.length ≤ 100) : ∀ (d j : Nat) (m : Int) (M : Nat → Bool) (a : Int), j + d = ws.length → 0 ≤ a → a ≤ 100000000 - 63 * (d : Int) → Rep m M →
    ∃ x, (∀ k, cal_fiscal.l2 (k + d + 1) p mo m yy z a nx ov q ws (ws.length : Int) (j : Int) f g = cal_fiscal.l1 k p mo x yy z (after (ws.drop j) a) nx ov (wrap64 (q + 1)) f g) ∧ Rep x (fun i => M i || (poss (ws.drop j) a).any (hitF ov nx f g i)) := by
  intro d
  induction d with
  | zero =>
    intro j m M a hj h0 h1 hm
    refine ⟨m, fun k => by rw [cal_fiscal.l2.eq_2, if_neg (by omega), List.drop_eq_nil_of_le (by omega)]; rfl, hm.congr fun i _ => ?_⟩
    rw [List.drop_eq_nil_of_le (by omega)]; simp [poss]
  | succ d ih =>
    intro j m M a hj h0 h1 hm
    have hlt : j < ws.length := by omega
    have e : rd ws (j : Int) = ws[j] := by unfold rd; rw [Int.toNat_natCast, List.getD_eq_getElem?_getD, List.getElem?_eq_getElem hlt]; rfl
    obtain ⟨w0, w9⟩ := hw _ (List.getElem_mem hlt)
    have wr : wrap64 (a + wrap64 (7 * ws[j])) = a + 7 * ws[j] := by rw [wrap64_id (x := 7 * ws[j]) (by omega) (by omega), wrap64_id (by omega) (by omega)]
    have wj : wrap64 ((j : Int) + 1) = ((j + 1 : Nat) : Int) := by rw [wrap64_id (by omega) (by omega)]; omega
    obtain ⟨b, hb, rb⟩ := bit_rep h a ⟨by omega, by omega⟩
    rw [List.drop_eq_getElem_cons hlt]
    by_cases c1 : ov = 0
    · by_cases c2 : a < nx
      · obtain ⟨x, hx, rx⟩ := ih (j + 1) _ _ (a + 7 * ws[j]) (by omega) (by omega) (by omega) (hm.or rb)
        refine ⟨x, fun k => by rw [show k + (d + 1) + 1 = (k + d + 1) + 1 from rfl, cal_fiscal.l2.eq_2, if_pos (by omega), if_pos (by omega), if_pos (by omega), if_pos c1, if_pos c2, hb, Option.bind_some, e, wr, wj, hx]; rfl, rx.congr fun i _ => ?_⟩
        rw [poss, List.any_cons, Bool.or_assoc]
        unfold hitF
        rw [decide_eq_true c2, Bool.or_true, Bool.true_and]
      · obtain ⟨x, hx, rx⟩ := ih (j + 1) m M (a + 7 * ws[j]) (by omega) (by omega) (by omega) hm
        refine ⟨x, fun k => by rw [show k + (d + 1) + 1 = (k + d + 1) + 1 from rfl, cal_fiscal.l2.eq_2, if_pos (by omega), if_pos (by omega), if_pos (by omega), if_pos c1, if_neg c2, e, wr, wj, hx]; rfl, rx.congr fun i _ => ?_⟩
        rw [poss, List.any_cons, ← Bool.or_assoc]
        have : hitF ov nx f g i a = false := by unfold hitF; rw [decide_eq_false c2, decide_eq_false (show ¬ ov ≠ 0 by simp [c1])]; rfl
        rw [this, Bool.or_false]
    · obtain ⟨x, hx, rx⟩ := ih (j + 1) _ _ (a + 7 * ws[j]) (by omega) (by omega) (by omega) (hm.or rb)
      refine ⟨x, fun k => by rw [show k + (d + 1) + 1 = (k + d + 1) + 1 from rfl, cal_fiscal.l2.eq_2, if_pos (by omega), if_pos (by omega), if_pos (by omega), if_neg c1, hb, Option.bind_some, e, wr, wj, hx]; rfl, rx.congr fun i _ => ?_⟩
      rw [poss, List.any_cons, Bool.or_assoc]
      unfold hitF
      rw [decide_eq_true (show ov ≠ 0 from c1), Bool.true_or, Bool.true_and]
def times (ws : List Int) : Nat → List Int
  | 0 => []
  | n + 1 => ws ++ times ws n
theorem fisc_l1 {f g : Int} (h : Span f g) (p mo yy z nx ov : Int) (hp : p = 445 ∨ p = 454 ∨ p = 544) : ∀ (d q : Nat) (m : Int) (M : Nat → Bool) (a : Int), q + d = 4 → 0 ≤ a → a ≤ 90000000 - 1000 * (d : Int) → Rep m M →
    ∃ x, (∀ k, cal_fiscal.l1 (k + 5 * d + 1) p mo m yy z a nx ov (q : Int) f g = cal_fiscal.l0 k p mo x yy (wrap64 (z + 1)) f g) ∧ Rep x (fun i => M i || (poss (times (wsOf p) d) a).any (hitF ov nx f g i)) := by
  intro d
  have hw : ∀ w ∈ wsOf p, 0 ≤ w ∧ w ≤ 9 := by rcases hp with rfl | rfl | rfl <;> decide
  have hl : (wsOf p).length = 3 := by rcases hp with rfl | rfl | rfl <;> rfl
  induction d with
  | zero =>
    intro q m M a hq h0 h1 hm
    refine ⟨m, fun k => by rw [show k + 5 * 0 + 1 = k + 1 from rfl, cal_fiscal.l1.eq_2, if_neg (by omega)], hm.congr fun i _ => ?_⟩
    simp [times, poss]
  | succ d ih =>
    intro q m M a hq h0 h1 hm
    obtain ⟨x, hx, rx⟩ := fisc_l2 h p mo yy z nx ov q (wsOf p) hw (by omega) 3 0 m M a (by omega) h0 (by omega) hm
    rw [List.drop_zero] at hx rx
    have hb := after_bd (wsOf p) a hw
    rw [hl] at hb
    obtain ⟨y, hy, ry⟩ := ih (q + 1) x _ (after (wsOf p) a) (by omega) (by omega) (by omega) rx
    refine ⟨y, fun k => ?_, ry.congr fun i _ => ?_⟩
    · have hq1 : wrap64 ((q : Int) + 1) = ((q + 1 : Nat) : Int) := by rw [wrap64_id (by omega) (by omega)]; omega
      have := hx (k + 5 * d + 1)
      rw [hl] at this
      rw [show k + 5 * (d + 1) + 1 = (k + 5 * d + 1 + 3 + 1) + 1 by omega, cal_fiscal.l1.eq_2, if_pos (by omega), Option.bind_some, pat_eq p hp, hl]
      show cal_fiscal.l2 (k + 5 * d + 1 + 3 + 1) p mo m yy z a nx ov q (wsOf p) ((3 : Nat) : Int) ((0 : Nat) : Int) f g = _
      rw [this, hq1, hy]
    · rw [times, poss_append, List.any_append, Bool.or_assoc]
/-- The first days of the periods of the fiscal year that begins in a year. -/
def fy (p mo f g z : Int) (i : Nat) : Bool := if (nthOf z mo 0 1).2 = 0 then (poss (times (wsOf p) 4) (nthOf z mo 0 1).1).any (hitF (nthOf (z + 1) mo 0 1).2 (nthOf (z + 1) mo 0 1).1 f g i) else false
theorem nth_bd {z mo : Int} (h : (nthOf z mo 0 1).2 = 0) : ∃ w, IsDate (nthOf z mo 0 1).1 z mo w ∧ ((nthOf z mo 0 1).1 - 1) % 7 = 0 ∧ w ≤ 7 := by
  unfold nthOf at h ⊢
  by_cases c : days z mo 1 = (0, 6)
  · rw [if_pos c] at h; simp at h
  rw [if_neg c, if_neg (by omega), if_neg (by omega), if_neg (by omega), if_neg (by omega), if_neg (by omega)] at h ⊢
  have hd := month_first z mo c
  obtain ⟨a1, a2, a3, a4, a5, a6, a7⟩ := hd
  have hL := len_pos z mo a3 a4
  unfold nth at h ⊢
  have ho := off_bd 0 ((before z + cum z mo + 1 - 1) % 7)
  have hc : 4 ≤ cnt (len z mo) (off 0 ((before z + cum z mo + 1 - 1) % 7)) := by unfold cnt; omega
  dsimp only at h ⊢
  rw [if_neg (show ¬ (1 : Int) < 0 by omega), if_neg (by omega), if_neg (by omega)]
  refine ⟨1 + off 0 ((before z + cum z mo + 1 - 1) % 7), ⟨a1, a2, a3, a4, by omega, by omega, by dsimp only; omega⟩, ?_, by omega⟩
  dsimp only
  unfold off
  omega
theorem fisc_l0 {f g : Int} (h : Span f g) (p mo yy : Int) (hp : p = 445 ∨ p = 454 ∨ p = 544) (hyy : yy ≤ 9999) : ∀ (d : Nat) (z m : Int) (M : Nat → Bool), z + d = yy + 1 → -5 ≤ z → Rep m M →
    ∃ x, Ev (fun k => cal_fiscal.l0 k p mo m yy z f g) x ∧ Rep x (fun i => M i || (List.range d).any fun t => fy p mo f g (z + (t : Int)) i) := by
  intro d
  induction d with
  | zero =>
    intro z m M hz h0 hm
    refine ⟨m, Ev.step (fun k => by rw [cal_fiscal.l0.eq_2, if_neg (by omega)]) (Ev.now _), hm.congr fun i _ => by simp⟩
  | succ d ih =>
    intro z m M hz h0 hm
    have wz : wrap64 (z + 1) = z + 1 := wrap64_id (by omega) (by omega)
    have split : ∀ i, ((List.range (d + 1)).any fun t => fy p mo f g (z + (t : Int)) i) = (fy p mo f g z i || (List.range d).any fun t => fy p mo f g (z + 1 + (t : Int)) i) := by
      intro i
      rw [List.range_succ_eq_map, List.any_cons, List.any_map]
      congr 1
      · simp
      · congr 1
        funext t
        show fy p mo f g (z + ((t + 1 : Nat) : Int)) i = _
        rw [show z + ((t + 1 : Nat) : Int) = z + 1 + (t : Int) by omega]
    have n1 : Ev (fun k => week_Nth.f k z mo 0 1) (nthOf z mo 0 1) := ⟨20, fun k hk => Nth_eq k hk _ _ _ _⟩
    have n2 : Ev (fun k => week_Nth.f k (z + 1) mo 0 1) (nthOf (z + 1) mo 0 1) := ⟨20, fun k hk => Nth_eq k hk _ _ _ _⟩
    by_cases c : (nthOf z mo 0 1).2 = 0
    · obtain ⟨w, hd, _⟩ := nth_bd c
      have hr := hd.range
      obtain ⟨x, hx, rx⟩ := fisc_l1 h p mo yy z (nthOf (z + 1) mo 0 1).1 (nthOf (z + 1) mo 0 1).2 hp 4 0 m M (nthOf z mo 0 1).1 rfl (by omega) (by omega) hm
      obtain ⟨y, hy, ry⟩ := ih (z + 1) x _ (by omega) (by omega) rx
      refine ⟨y, Ev.step (f := fun k => (week_Nth.f k z mo 0 1).bind fun a => (week_Nth.f k (z + 1) mo 0 1).bind fun b => if a.2 = 0 then cal_fiscal.l1 k p mo m yy z a.1 b.1 b.2 0 f g else cal_fiscal.l0 k p mo m yy (z + 1) f g) (fun k => by rw [cal_fiscal.l0.eq_2, if_pos (by omega), wz]) (Ev.bind n1 (Ev.bind n2 ?_)), ry.congr fun i _ => ?_⟩
      · simp only [if_pos c]
        obtain ⟨K, hK⟩ := hy
        refine ⟨K + 21, fun k hk => ?_⟩
        obtain ⟨k, rfl⟩ : ∃ q, k = q + 5 * 4 + 1 := ⟨k - 21, by omega⟩
        have := hx k
        rw [wz] at this
        exact this.trans (hK k (by omega))
      · rw [split i, ← Bool.or_assoc]
        congr 1
        congr 1
        unfold fy
        rw [if_pos c]
    · obtain ⟨y, hy, ry⟩ := ih (z + 1) m M (by omega) (by omega) hm
      refine ⟨y, Ev.step (f := fun k => (week_Nth.f k z mo 0 1).bind fun a => (week_Nth.f k (z + 1) mo 0 1).bind fun b => if a.2 = 0 then cal_fiscal.l1 k p mo m yy z a.1 b.1 b.2 0 f g else cal_fiscal.l0 k p mo m yy (z + 1) f g) (fun k => by rw [cal_fiscal.l0.eq_2, if_pos (by omega), wz]) (Ev.bind n1 (Ev.bind n2 ?_)), ry.congr fun i _ => ?_⟩
      · simp only [if_neg c]
        exact hy
      · rw [split i]
        unfold fy
        rw [if_neg c, Bool.false_or]
/-- The first days of fiscal periods in the month of a year that begins at f. -/
theorem fiscal_rep {f g : Int} (h : Span f g) {y m : Int} (hd : IsDate f y m 1) (p mo : Int) (hp : p = 445 ∨ p = 454 ∨ p = 544) : ∃ x, Ev (fun k => cal_fiscal.f k p mo f g) x ∧ Rep x (fun i => fy p mo f g (y - 1) i || fy p mo f g y i) := by
  obtain ⟨a1, a2, a3, a4, a5, a6, a7⟩ := id hd
  obtain ⟨x, hx, rx⟩ := fisc_l0 h p mo y hp (by omega) 2 (y - 1) 0 _ (by omega) (by omega) zero_rep
  refine ⟨x, ?_, rx.congr fun i _ => ?_⟩
  · unfold cal_fiscal.f
    have hD : Ev (fun k => date_Date.f k f) (y, m, 1, 0) := ⟨20, fun k hk => by
      obtain ⟨y', m', d', h1, h2⟩ := Date_ok k hk f hd.range.1 hd.range.2
      obtain ⟨rfl, rfl, rfl⟩ := h2.uniq hd
      exact h1⟩
    refine Ev.bind hD ?_
    dsimp only
    rw [wrap64_id (x := y - 1) (by omega) (by omega)]
    exact hx
  · rw [show List.range 2 = [0, 1] from rfl]
    simp
end Go.Proofs.YtpcjbnaggeiaoaaDoor.QCalMoved
