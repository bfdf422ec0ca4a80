/- What the law CalAgain asks holds: the days of a node that names no days of its own come again behind 400 years; for all nodes and days. -/
import Derived.Test.YtpcjbnaggeiaoaaDoorPureCalMoved
import Derived.Test.YtpcjbnaggeiaoaaDoorLWalkCalAgain
namespace Go.Proofs.YtpcjbnaggeiaoaaDoor.QCalMoved
open Go.RowKit Go.Proofs.YtpcjbnaggeiaoaaDoor.PCalMoved Go.Proofs.YtpcjbnaggeiaoaaDoorW.PrintWords Go.Proofs.YtpcjbnaggeiaoaaDoorW.PrintLast Go.Proofs.YtpcjbnaggeiaoaaDoorW.PrintMore Go.Proofs.YtpcjbnaggeiaoaaDoor.MDate Go.Proofs.YtpcjbnaggeiaoaaDoor.MBits
set_option linter.unusedVariables false
set_option linter.unusedSimpArgs false
theorem before_400 (y : Int) : before (y + 400) = before y + 146097 := by unfold before; omega
theorem leap_400 (y : Int) : leapB (y + 400) = leapB y := by
  rw [Bool.eq_iff_iff, leapB_iff, leapB_iff]; omega
theorem lp_400 (y : Int) : lp (y + 400) = lp y := by unfold lp; rw [leap_400]
theorem cum_400 (y m : Int) : cum (y + 400) m = cum y m := by unfold cum; rw [lp_400]
theorem len_400 (y m : Int) : len (y + 400) m = len y m := by unfold len; rw [lp_400]
theorem nth_400 (a L wd k : Int) : (nth (a + 146097) L wd k).2 = (nth a L wd k).2 ∧ ((nth a L wd k).2 = 0 → (nth (a + 146097) L wd k).1 = (nth a L wd k).1 + 146097) := by
  have e : (a + 146097 - 1) % 7 = (a - 1) % 7 := by omega
  unfold nth
  rw [e]
  dsimp only
  generalize cnt L (off wd ((a - 1) % 7)) = c
  generalize off wd ((a - 1) % 7) = o
  by_cases h1 : (if k < 0 then c + k else k - 1) < 0
  · rw [if_pos h1, if_pos h1]; exact ⟨rfl, fun h => by cases h⟩
  rw [if_neg h1, if_neg h1]
  by_cases h2 : (if k < 0 then c + k else k - 1) ≥ c
  · rw [if_pos h2, if_pos h2]; exact ⟨rfl, fun h => by cases h⟩
  rw [if_neg h2, if_neg h2]
  exact ⟨rfl, fun _ => by dsimp only; omega⟩
theorem nthOf_400 (y m wd k : Int) (h1 : 1 ≤ y) (h2 : y + 400 ≤ 9999) : (nthOf (y + 400) m wd k).2 = (nthOf y m wd k).2 ∧ ((nthOf y m wd k).2 = 0 → (nthOf (y + 400) m wd k).1 = (nthOf y m wd k).1 + 146097) := by
  have hd : (days (y + 400) m 1 = (0, 6)) = (days y m 1 = (0, 6)) := by
    unfold days
    rw [len_400, before_400, cum_400, if_neg (show ¬ y + 400 < 1 by omega), if_neg (show ¬ y + 400 > 9999 by omega), if_neg (show ¬ (1 : Int) < 1 by omega), if_neg (show ¬ y < 1 by omega), if_neg (show ¬ y > 9999 by omega)]
    by_cases c : 1 > len y m
    · rw [if_pos c, if_pos c, if_neg (show ¬ (1 : Int) < 1 by omega)]
    · rw [if_neg c, if_neg c, if_neg (show ¬ (1 : Int) < 1 by omega)]
      simp
  unfold nthOf
  by_cases c : days y m 1 = (0, 6)
  · rw [if_pos (hd ▸ c), if_pos c]; exact ⟨rfl, fun h => by cases h⟩
  rw [if_neg (hd ▸ c), if_neg c]
  by_cases c1 : wd < 0
  · rw [if_pos c1, if_pos c1]; exact ⟨rfl, fun h => by cases h⟩
  rw [if_neg c1, if_neg c1]
  by_cases c2 : wd ≥ 7
  · rw [if_pos c2, if_pos c2]; exact ⟨rfl, fun h => by cases h⟩
  rw [if_neg c2, if_neg c2]
  by_cases c3 : k = 0
  · rw [if_pos c3, if_pos c3]; exact ⟨rfl, fun h => by cases h⟩
  rw [if_neg c3, if_neg c3]
  by_cases c4 : k < -5
  · rw [if_pos c4, if_pos c4]; exact ⟨rfl, fun h => by cases h⟩
  rw [if_neg c4, if_neg c4]
  by_cases c5 : k > 5
  · rw [if_pos c5, if_pos c5]; exact ⟨rfl, fun h => by cases h⟩
  rw [if_neg c5, if_neg c5, len_400, before_400, cum_400]
  have := nth_400 (before y + cum y m + 1) (len y m) wd k
  rw [show before y + 146097 + cum y m + 1 = before y + cum y m + 1 + 146097 by omega]
  exact this
theorem poss_add : ∀ (l : List Int) (a c : Int), poss l (a + c) = (poss l a).map (· + c)
  | [], _, _ => rfl
  | w :: r, a, c => by rw [poss, poss, List.map_cons, show a + c + 7 * w = a + 7 * w + c by omega, poss_add r]
theorem hit_add (ov nx nx' f g : Int) (i : Nat) (pos : Int) (h : ov = 0 → nx' = nx + 146097) : hitF ov nx' (f + 146097) g i (pos + 146097) = hitF ov nx f g i pos := by
  unfold hitF
  have e : (decide (pos + 146097 = f + 146097 + (i : Int))) = decide (pos = f + (i : Int)) := by rw [decide_eq_decide]; omega
  rw [e]
  by_cases z : ov = 0
  · rw [h z, show (decide (pos + 146097 < nx + 146097)) = decide (pos < nx) by rw [decide_eq_decide]; omega]
  · rw [decide_eq_true (show ov ≠ 0 from z)]; simp
theorem fy_400 (p mo f g z : Int) (i : Nat) (h1 : 1 ≤ z) (h2 : z + 401 ≤ 9999) : fy p mo (f + 146097) g (z + 400) i = fy p mo f g z i := by
  obtain ⟨a1, a2⟩ := nthOf_400 z mo 0 1 h1 (by omega)
  obtain ⟨b1, b2⟩ := nthOf_400 (z + 1) mo 0 1 (by omega) (by omega)
  unfold fy
  rw [a1, show z + 400 + 1 = z + 1 + 400 by omega, b1]
  by_cases c : (nthOf z mo 0 1).2 = 0
  · rw [if_pos c, if_pos c, a2 c, poss_add, List.any_map]
    congr 1
    funext pos
    exact hit_add _ _ _ _ _ _ _ b2
  · rw [if_neg c, if_neg c]
theorem bit_400 (f g d : Int) (h1 : 0 ≤ f) (h2 : f ≤ 4000000) (h3 : 0 ≤ g) (h4 : g ≤ 31) (h5 : -4000000 ≤ d) (h6 : d ≤ 4000000) : cal_span_bit.f (f + 146097) g (d + 146097) = cal_span_bit.f f g d := by
  unfold cal_span_bit.f
  rw [wrap64_id (x := f + 146097 + g) (by omega) (by omega), wrap64_id (x := f + g) (by omega) (by omega), wrap64_id (x := d + 146097 - (f + 146097)) (by omega) (by omega), wrap64_id (x := d - f) (by omega) (by omega), show d + 146097 - (f + 146097) = d - f by omega]
  by_cases c1 : d < f
  · rw [if_pos c1, if_pos (by omega)]
  rw [if_neg c1, if_neg (by omega)]
  by_cases c2 : d ≥ f + g
  · rw [if_pos c2, if_pos (by omega)]
  · rw [if_neg c2, if_neg (by omega)]
theorem nthOf_bd {y m f : Int} (hdate : IsDate f y m 1) (a b : Int) : 0 ≤ (nthOf y m a b).1 ∧ (nthOf y m a b).1 ≤ 4000000 := by
  have hr := hdate.range
  obtain ⟨a1, a2, a3, a4, a5, a6, a7⟩ := hdate
  have hL := len_bd y m
  unfold nthOf
  split
  · dsimp only; omega
  split
  · dsimp only; omega
  split
  · dsimp only; omega
  split
  · dsimp only; omega
  split
  · dsimp only; omega
  split
  · dsimp only; omega
  unfold nth
  have ho := off_bd a ((before y + cum y m + 1 - 1) % 7)
  have hc : cnt (len y m) (off a ((before y + cum y m + 1 - 1) % 7)) ≤ 6 := by unfold cnt; omega
  dsimp only
  repeat' split
  all_goals (first | omega | (dsimp only; omega))
/-- The month 400 years behind has the same days. -/
theorem month_400 (n : CN) (hn : rightN 16 n = true) (ho : n.f0 = 1 ∨ n.f0 = 3 ∨ n.f0 = 4 ∨ n.f0 = 6) {f g y m : Int} (hd : IsDate f y m 1) (hg : g = len y m) (hy1 : 2 ≤ y) (hy2 : y ≤ 9598) {B : Nat → Bool} (hB : MonthIs [] n f g B) : MonthIs [] n (f + 146097) g B := by
  obtain ⟨e, he, o1, o10, hnum, hkid, hkr⟩ := rightN_open hn
  have hd4 : IsDate (f + 146097) (y + 400) m 1 := by
    obtain ⟨a1, a2, a3, a4, a5, a6, a7⟩ := hd
    exact ⟨by omega, by omega, a3, a4, a5, by rw [len_400]; exact a6, by rw [before_400, cum_400]; omega⟩
  have hr := hd.range
  have hr4 := hd4.range
  have hgb := len_bd y m
  have hs : Span f g := by
    obtain ⟨a1, a2, a3, a4, a5, a6, a7⟩ := hd
    exact ⟨y, m, a1, a2, a3, a4, a7, hg⟩
  have hs4 : Span (f + 146097) g := by
    obtain ⟨a1, a2, a3, a4, a5, a6, a7⟩ := hd4
    exact ⟨y + 400, m, a1, a2, a3, a4, a7, by rw [len_400]; exact hg⟩
  -- where the functions are the same
  have same : (∀ k, month.f (k + 1) [] n (f + 146097) g = month.f (k + 1) [] n f g) → MonthIs [] n (f + 146097) g B := by
    intro h
    obtain ⟨x, ⟨K, hx⟩, rx⟩ := hB
    refine ⟨x, ⟨K + 1, fun k hk => ?_⟩, rx⟩
    obtain ⟨k, rfl⟩ : ∃ q, k = q + 1 := ⟨k - 1, by omega⟩
    dsimp only
    rw [h]
    exact hx (k + 1) (by omega)
  obtain ⟨op, ns, ks, nm⟩ := n
  simp only at ho hnum
  rcases ho with rfl | rfl | rfl | rfl
  · refine same fun k => ?_
    rw [month.f.eq_2, month.f.eq_2]
    dsimp only
    rw [if_pos rfl, if_pos rfl, Weekday_eq, Weekday_eq, Option.bind_some, Option.bind_some, weekday_in (by omega) (by omega), weekday_in (by omega) (by omega), show (f + 146097 - 1) % 7 = (f - 1) % 7 by omega]
  · refine same fun k => ?_
    rw [month.f.eq_2, month.f.eq_2]
    dsimp only
    rw [if_neg (by decide), if_neg (by decide), if_pos rfl, if_neg (by decide), if_neg (by decide), if_pos rfl]
  · have unf : ∀ f' k, month.f (k + 1) [] ⟨4, ns, ks, nm⟩ f' g = (if 1 < ns.length then ((date_Date.f k f').bind fun d => (week_Nth.f k d.1 d.2.1 (rd ns 0) (rd ns 1)).bind fun q => if q.2 = 0 then cal_span_bit.f f' g q.1 else some 0) else none) := fun f' k => by
      rw [month.f.eq_2]; dsimp only
      rw [if_neg (by decide), if_neg (by decide), if_neg (by decide), if_pos rfl]
    obtain ⟨x, ⟨K, hx⟩, rx⟩ := hB
    refine ⟨x, ⟨K + 40, fun k hk => ?_⟩, rx⟩
    have h := hx k (by omega)
    obtain ⟨k, rfl⟩ : ∃ q, k = q + 1 := ⟨k - 1, by omega⟩
    dsimp only at h ⊢
    have hD : ∀ {f' y' : Int}, IsDate f' y' m 1 → date_Date.f k f' = some (y', m, 1, 0) := fun {f' y'} hd => by
      obtain ⟨y2, m2, d2, h1, h2⟩ := Date_ok k (by omega) f' hd.range.1 hd.range.2
      obtain ⟨rfl, rfl, rfl⟩ := h2.uniq hd
      exact h1
    rw [unf, hD hd, Option.bind_some, Nth_eq k (by omega), Option.bind_some] at h
    rw [unf, hD hd4, Option.bind_some, Nth_eq k (by omega), Option.bind_some]
    obtain ⟨n1, n2⟩ := nthOf_400 y m (rd ns 0) (rd ns 1) (by omega) (by omega)
    rw [n1]
    by_cases z : (nthOf y m (rd ns 0) (rd ns 1)).2 = 0
    · have hb := nthOf_bd hd (rd ns 0) (rd ns 1)
      rw [if_pos z] at h ⊢
      rw [n2 z, bit_400 _ _ _ (by omega) (by omega) (by omega) (by omega) (by omega) (by omega)]
      exact h
    · rw [if_neg z] at h ⊢
      exact h
  · simp [numsB] at hnum
    obtain ⟨hlen, hp, hmo⟩ := hnum
    have unf : ∀ f' k, month.f (k + 1) [] ⟨6, ns, ks, nm⟩ f' g = cal_fiscal.f k (rd ns 0) (rd ns 1) f' g := fun f' k => by
      rw [month.f.eq_2]; dsimp only
      rw [if_neg (by decide), if_neg (by decide), if_neg (by decide), if_neg (by decide), if_neg (by decide), if_pos rfl, if_pos (by omega)]
    obtain ⟨x, hx, rx⟩ := fiscal_rep hs hd (rd ns 0) (rd ns 1) (by omega)
    obtain ⟨x4, hx4, rx4⟩ := fiscal_rep hs4 hd4 (rd ns 0) (rd ns 1) (by omega)
    obtain ⟨xB, hxB, rxB⟩ := hB
    have e1 : x = xB := Ev.uniq (Ev.step (unf f) hx) hxB
    subst e1
    have e2 : x4 = x := rx4.uniq (rx.congr fun i _ => by
      have a := fy_400 (rd ns 0) (rd ns 1) f g (y - 1) i (by omega) (by omega)
      have b := fy_400 (rd ns 0) (rd ns 1) f g y i (by omega) (by omega)
      rw [show y + 400 - 1 = y - 1 + 400 by omega, a, b])
    subst e2
    exact ⟨x4, Ev.step (unf (f + 146097)) hx4, rxB⟩
theorem year_of {f y m : Int} (h : IsDate f y m 1) (h1 : 700 ≤ f) (h2 : f ≤ 3505060) : 2 ≤ y ∧ y ≤ 9598 := by
  obtain ⟨a1, a2, a3, a4, a5, a6, rfl⟩ := h
  have c0 : 0 ≤ cum y m := by have := cum_mono y 1 m (by omega) a3 (by omega); rw [cum_one] at this; exact this
  have c1 : cum y m ≤ 366 := by have := cum_mono y m 13 a3 (by omega) (by omega); rw [cum_end] at this; have := lp_bd y; omega
  unfold before at h1 h2
  omega
/-- The law's days. -/
theorem again_law (x : CN) (hx : Small x) (ho : x.f0 = 1 ∨ x.f0 = 3 ∨ x.f0 = 4 ∨ x.f0 = 6) (d : Int) (h1 : 800 ≤ d) (h2 : d ≤ 3505059) : InOf [] x (d + 146097) = InOf [] x d := by
  have hls : ∀ c ∈ ([] : List CC), Small c.f1 := fun c hc => by cases hc
  have r1 : rightB d = true := (rightB_iff d).mpr (by omega)
  have r2 : rightB (d + 146097) = true := (rightB_iff _).mpr (by omega)
  have ho' : openOf [] (d + 146097) [x] = openOf [] d [x] := by
    show (if 24 < ([] : List CC).length then (3 : Int) else if (([] : List CC).all (fun c => rightN 16 c.f1) && rightN 16 x) = false then 1 else if rightB (d + 146097) = false then 6 else if (walkOf [] x).1 = 0 then 0 else (walkOf [] x).1) = (if 24 < ([] : List CC).length then (3 : Int) else if (([] : List CC).all (fun c => rightN 16 c.f1) && rightN 16 x) = false then 1 else if rightB d = false then 6 else if (walkOf [] x).1 = 0 then 0 else (walkOf [] x).1)
    rw [r1, r2]
  unfold InOf
  rw [ho']
  by_cases z : openOf [] d [x] = 0
  · rw [if_pos z, if_pos z]
    obtain ⟨fx, _, _⟩ := (openOf_cons [] d x []).mp z
    obtain ⟨y, m, q, hdq⟩ := isDate_of d (by omega) (by omega)
    obtain ⟨a1, a2, a3, a4, a5, a6, a7⟩ := id hdq
    have hL := len_bd y m
    have hf : IsDate (d - q + 1) y m 1 := ⟨a1, a2, a3, a4, by omega, by omega, by omega⟩
    obtain ⟨y1, y2⟩ := year_of hf (by omega) (by omega)
    have hs : Span (d - q + 1) (len y m) := ⟨y, m, a1, a2, a3, a4, by omega, rfl⟩
    obtain ⟨B, hB⟩ := fx.tot hls hx hs
    have hB4 := month_400 x fx.right ho hf rfl y1 y2 hB
    have hdq4 : IsDate (d + 146097) (y + 400) m q := ⟨by omega, by omega, a3, a4, a5, by rw [len_400]; exact a6, by rw [before_400, cum_400]; omega⟩
    have hs4 : Span (d + 146097 - q + 1) (len (y + 400) m) := ⟨y + 400, m, by omega, by omega, a3, a4, by rw [before_400, cum_400]; omega, rfl⟩
    have i1 := in_at [] x d (spanOf_date hdq) hs (by omega) (by omega) B hB
    have i2 := in_at [] x (d + 146097) (spanOf_date hdq4) hs4 (by omega) (by rw [len_400]; omega) B (by rw [len_400, show d + 146097 - q + 1 = d - q + 1 + 146097 by omega]; exact hB4)
    have e1 := Ev.uniq (fx.ev hls hx d r1) i1
    have e2 := Ev.uniq (fx.ev hls hx (d + 146097) r2) i2
    rw [e1, e2, show d + 146097 - (d + 146097 - q + 1) = d - (d - q + 1) by omega]
  · rw [if_neg z, if_neg z]
theorem again_j0 (n : RN) (hn : NodeOk n) (d : Int) (b : Bool) (hb : b = false → (n.f0 = 1 ∨ n.f0 = 3 ∨ n.f0 = 4 ∨ n.f0 = 6) ∧ 800 ≤ d ∧ d ≤ 3505059) : Ev (fun k => dayshiftlaw06_CalAgain.j0 k d b n.f0 n.f1 n.f2 n.f3) true := by
  cases b with
  | true => exact Ev.step (fun k => by rw [dayshiftlaw06_CalAgain.j0.eq_2, if_pos rfl]) (Ev.bind known_ev (Ev.now _))
  | false =>
    obtain ⟨ho, h1, h2⟩ := hb rfl
    obtain ⟨x, hx, sx, ix⟩ := given_ev n hn
    have hx0 : x.f0 = n.f0 := by cases ix; assumption
    refine Ev.step (fun k => by rw [dayshiftlaw06_CalAgain.j0.eq_2, if_neg (by decide), wrap64_id (x := d + 146097) (by omega) (by omega)]) (Ev.bind hx ?_)
    dsimp only
    have hls : ∀ c ∈ ([] : List CC), Small c.f1 := fun c hc => by cases hc
    refine Ev.bind (In_ev [] (by simp) hls x sx d) ?_
    refine Ev.bind (In_ev [] (by simp) hls x sx (d + 146097)) ?_
    rw [again_law x sx (by rw [hx0]; exact ho) d h1 h2]
    simp only [beq_self_eq_true, if_true]
    exact Ev.bind known_ev (Ev.now _)
theorem again_pure (n : RN) (hn : NodeOk n) (d : Int) : ∃ k, dayshiftlaw06_CalAgain.f k n.f0 n.f1 n.f2 n.f3 d = some true := by
  have h : Ev (fun k => dayshiftlaw06_CalAgain.f k n.f0 n.f1 n.f2 n.f3 d) true := by
    unfold dayshiftlaw06_CalAgain.f
    have done : (n.f0 = 1 ∨ n.f0 = 3 ∨ n.f0 = 4 ∨ n.f0 = 6) → Ev (fun k => if d < 800 then dayshiftlaw06_CalAgain.j0 k d true n.f0 n.f1 n.f2 n.f3 else dayshiftlaw06_CalAgain.j0 k d (decide (d > 3505059)) n.f0 n.f1 n.f2 n.f3) true := by
      intro ho
      by_cases c : d < 800
      · simp only [if_pos c]
        exact again_j0 n hn d true (fun h => by cases h)
      · simp only [if_neg c]
        exact again_j0 n hn d _ (fun h => ⟨ho, by omega, by have := of_decide_eq_false h; omega⟩)
    by_cases c1 : n.f0 = 1
    · simp only [if_pos c1]; exact done (.inl c1)
    simp only [if_neg c1]
    by_cases c3 : n.f0 = 3
    · simp only [if_pos c3]; exact done (.inr (.inl c3))
    simp only [if_neg c3]
    by_cases c4 : n.f0 = 4
    · simp only [if_pos c4]; exact done (.inr (.inr (.inl c4)))
    simp only [if_neg c4]
    by_cases c6 : n.f0 = 6
    · simp only [if_pos c6]; exact done (.inr (.inr (.inr c6)))
    simp only [if_neg c6]
    exact again_j0 n hn d true (fun h => by cases h)
  exact h.rounds
end Go.Proofs.YtpcjbnaggeiaoaaDoor.QCalMoved
