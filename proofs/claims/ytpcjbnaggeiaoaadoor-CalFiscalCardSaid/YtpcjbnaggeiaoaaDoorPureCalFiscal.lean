/- What the law CalFiscal asks holds: the first days of fiscal periods are Mondays, and the next one stands 28, 35 or 42 days behind; for all numbers and days. -/
import Derived.Test.YtpcjbnaggeiaoaaDoorPureCalMoved
import Derived.Test.YtpcjbnaggeiaoaaDoorLWalkCalFiscal
namespace Go.Proofs.YtpcjbnaggeiaoaaDoor.QCalMoved
open Go.RowKit Go.Proofs.YtpcjbnaggeiaoaaDoor.PCalMoved Go.Proofs.YtpcjbnaggeiaoaaDoorW.PrintWords Go.Proofs.YtpcjbnaggeiaoaaDoorW.PrintLast Go.Proofs.YtpcjbnaggeiaoaaDoorW.PrintMore Go.Proofs.YtpcjbnaggeiaoaaDoor.MDate Go.Proofs.YtpcjbnaggeiaoaaDoor.MBits
set_option linter.unusedVariables false
set_option linter.unusedSimpArgs false
abbrev fn (p mo : Int) : CN := ⟨6, [p, mo], [], ⟨#[]⟩⟩
def goodP (p mo : Int) : Prop := (p = 445 ∨ p = 454 ∨ p = 544) ∧ 1 ≤ mo ∧ mo ≤ 12
theorem fn_small (p mo : Int) (h : goodP p mo) : Small (fn p mo) := by
  obtain ⟨h1, h2, h3⟩ := h
  refine .mk _ (by simp) (by simp) (fun x hx => ?_) (fun c hc => by cases hc) (by simp [ByteArray.size])
  simp only [List.mem_cons, List.not_mem_nil, or_false] at hx
  omega
theorem fn_right (p mo : Int) (h : goodP p mo) : rightN 16 (fn p mo) = true := by
  obtain ⟨h1, h2, h3⟩ := h
  have hn : numsB (fn p mo) = true := by
    unfold numsB withinB
    dsimp only
    rw [if_neg (by decide), if_neg (by decide), if_neg (by decide), if_neg (by decide), if_neg (by decide), if_pos rfl]
    rw [show rd [p, mo] 0 = p from rfl, show rd [p, mo] 1 = mo from rfl, decide_eq_true h2, decide_eq_true h3]
    rcases h1 with rfl | rfl | rfl <;> rfl
  show (decide (1 ≤ (6 : Int) ∧ (6 : Int) ≤ 10) && (numsB (fn p mo) && (kidsB (fn p mo) && ((decide ((⟨#[]⟩ : ByteArray).toList = []) || (decide ((6 : Int) = 5) || decide ((6 : Int) = 10))) && ([] : List CN).all (rightN 15))))) = true
  rw [hn]
  have : kidsB (fn p mo) = true := rfl
  have e : (⟨#[]⟩ : ByteArray).toList = [] := by kernel_rfl
  rw [this, decide_eq_true e]
  rfl
theorem fn_walk (p mo : Int) (h : goodP p mo) : (walkOf [] (fn p mo)).1 = 0 := by
  have h1 := walkOf_ev [] (by simp) (fun c hc => by cases hc) (fn p mo) (fn_small p mo h)
  have h2 : Ev (fun k => cal_book_walk.f k [] 0 (fn p mo) 0 false) (0, 1) := Ev.step (f := fun k => cal_book_walk.l0 k [] 1 [] 0 0 false) (fun k => by
    rw [cal_book_walk.f.eq_2, wrap64_id (x := (0 : Int) + 1) (by omega) (by omega)]
    rfl) (Ev.step (fun k => by rw [cal_book_walk.l0.eq_2, if_neg (by decide)]) (Ev.now _))
  rw [Ev.uniq h1 h2]
theorem fn_open (p mo d : Int) (h : goodP p mo) (hd : rightB d = true) : openOf [] d [fn p mo] = 0 :=
  (openOf_cons [] d (fn p mo) []).mpr ⟨⟨by simp, (fun c hc => by cases hc), fn_right p mo h, fn_walk p mo h⟩, hd, rfl⟩
/-! ### The first Monday of a month of each year -/
def mon (mo z : Int) : Int := before z + cum z mo + 1 + off 0 ((before z + cum z mo + 1 - 1) % 7)
theorem mon_nth (mo z : Int) (hm : 1 ≤ mo ∧ mo ≤ 12) (h1 : 1 ≤ z) (h2 : z ≤ 9999) : nthOf z mo 0 1 = (mon mo z, 0) := by
  have hL := len_pos z mo hm.1 hm.2
  have c : ¬ days z mo 1 = (0, 6) := by
    unfold days
    rw [if_neg (by omega), if_neg (by omega), if_neg (by omega), if_neg (by omega)]
    simp
  unfold nthOf
  rw [if_neg c, if_neg (by omega), if_neg (by omega), if_neg (by omega), if_neg (by omega), if_neg (by omega)]
  unfold nth mon
  have ho := off_bd 0 ((before z + cum z mo + 1 - 1) % 7)
  have hc : 4 ≤ cnt (len z mo) (off 0 ((before z + cum z mo + 1 - 1) % 7)) := by unfold cnt; omega
  dsimp only
  rw [if_neg (show ¬ (1 : Int) < 0 by omega), if_neg (by omega), if_neg (by omega)]
  congr 1
  omega
theorem mon_mon (mo z : Int) : (mon mo z - 1) % 7 = 0 := by unfold mon off; omega
theorem cum_bd (z mo : Int) (hm : 1 ≤ mo ∧ mo ≤ 12) : 0 ≤ cum z mo ∧ cum z mo + 28 ≤ 365 + lp z := by
  have a := cum_mono z 1 mo (by omega) hm.1 (by omega)
  have b := cum_mono z (mo + 1) 13 (by omega) (by omega) (by omega)
  have c := cum_succ z mo hm.1 hm.2
  have d := len_pos z mo hm.1 hm.2
  rw [cum_one] at a
  rw [cum_end] at b
  omega
theorem mon_in (mo z : Int) (hm : 1 ≤ mo ∧ mo ≤ 12) : before z < mon mo z ∧ mon mo z ≤ before (z + 1) := by
  have := cum_bd z mo hm
  have ho := off_bd 0 ((before z + cum z mo + 1 - 1) % 7)
  rw [before_succ]
  unfold mon
  omega
theorem mon_gap (mo z : Int) (hm : 1 ≤ mo ∧ mo ≤ 12) : mon mo (z + 1) - mon mo z = 364 ∨ mon mo (z + 1) - mon mo z = 371 := by
  have a := mon_mon mo z
  have b := mon_mon mo (z + 1)
  have ho := off_bd 0 ((before z + cum z mo + 1 - 1) % 7)
  have ho2 := off_bd 0 ((before (z + 1) + cum (z + 1) mo + 1 - 1) % 7)
  have hb := before_succ z
  have hc : cum (z + 1) mo - cum z mo ≤ 1 - lp z ∧ -lp z ≤ cum (z + 1) mo - cum z mo := by
    have l1 := lp_cases z
    have l2 := lp_cases (z + 1)
    have n4 : ¬ (lp z = 1 ∧ lp (z + 1) = 1) := by
      rintro ⟨p, q⟩
      have p' := (leapB_iff z).mp (l1.resolve_right (fun h => by omega)).2
      have q' := (leapB_iff (z + 1)).mp (l2.resolve_right (fun h => by omega)).2
      omega
    unfold cum
    by_cases c : mo ≤ 2
    · rw [if_pos c, if_pos c]; omega
    · rw [if_neg c, if_neg c]; omega
  have hl := lp_bd z
  unfold mon at *
  omega
/-! ### The periods' first days -/
def offs (p : Int) : List Int := poss (times (wsOf p) 4) 0
theorem poss_shift : ∀ (l : List Int) (a c : Int), poss l (a + c) = (poss l a).map (· + c)
  | [], _, _ => rfl
  | w :: r, a, c => by rw [poss, poss, List.map_cons, show a + c + 7 * w = a + 7 * w + c by omega, poss_shift r]
theorem offs_mem (p a d : Int) : d ∈ poss (times (wsOf p) 4) a ↔ d - a ∈ offs p := by
  have := poss_shift (times (wsOf p) 4) 0 a
  rw [show (0 : Int) + a = a by omega] at this
  rw [this, List.mem_map]
  constructor
  · rintro ⟨x, hx, rfl⟩
    rw [show x + a - a = x by omega]; exact hx
  · intro h
    exact ⟨d - a, h, by omega⟩
theorem offs_bd (p : Int) (hp : p = 445 ∨ p = 454 ∨ p = 544) : ∀ o ∈ offs p, 0 ≤ o ∧ o < 364 ∧ o % 7 = 0 := by
  rcases hp with rfl | rfl | rfl <;> decide
theorem fy_iff (p mo f g z : Int) (i : Nat) (hm : 1 ≤ mo ∧ mo ≤ 12) (h1 : 1 ≤ z) (h2 : z + 1 ≤ 9999) (hi : (i : Int) < g) : fy p mo f g z i = true ↔ f + (i : Int) - mon mo z ∈ offs p ∧ f + (i : Int) < mon mo (z + 1) := by
  unfold fy
  rw [mon_nth mo z hm h1 (by omega), mon_nth mo (z + 1) hm (by omega) h2, if_pos rfl, List.any_eq_true]
  dsimp only
  constructor
  · rintro ⟨pos, hp, hh⟩
    simp only [hitF, Bool.and_eq_true, Bool.or_eq_true, decide_eq_true_eq] at hh
    obtain ⟨h3, h4, h5⟩ := hh
    rw [h4] at hp h3
    exact ⟨(offs_mem _ _ _).mp hp, by omega⟩
  · rintro ⟨h3, h4⟩
    refine ⟨f + (i : Int), (offs_mem _ _ _).mpr h3, ?_⟩
    simp only [hitF, Bool.and_eq_true, Bool.or_eq_true, decide_eq_true_eq]
    exact ⟨.inr h4, trivial, hi⟩
theorem year_at (mo z d y m q : Int) (hm : 1 ≤ mo ∧ mo ≤ 12) (h : IsDate d y m q) (h1 : mon mo z ≤ d) (h2 : d < mon mo (z + 1)) : z = y ∨ z = y - 1 := by
  obtain ⟨a1, a2, a3, a4, a5, a6, rfl⟩ := h
  have c := cum_mono y 1 m (by omega) a3 (by omega)
  have c2 := cum_mono y (m + 1) 13 (by omega) (by omega) (by omega)
  rw [cum_succ y m a3 a4, cum_end] at c2
  rw [cum_one] at c
  have b := before_succ y
  have i1 := mon_in mo z hm
  have i2 := mon_in mo (z + 1) hm
  rcases Int.lt_trichotomy z y with h | h | h
  · rcases Int.lt_or_le z (y - 1) with h' | h'
    · have := before_mono (show z + 1 + 1 ≤ y by omega)
      omega
    · omega
  · omega
  · have := before_mono (show y + 1 ≤ z by omega)
    omega
/-- Whether a day is the first of a period, by the fiscal year that it is of. -/
theorem fis_at (p mo z d : Int) (h : goodP p mo) (h1 : 2 ≤ z) (h2 : z ≤ 9997) (h3 : mon mo z ≤ d) (h4 : d < mon mo (z + 1)) : Ev (fun k => cal_In.f k [] 6 [p, mo] [] ⟨#[]⟩ d) (decide (d - mon mo z ∈ offs p), 0) := by
  have hm := h.2
  have hls : ∀ c ∈ ([] : List CC), Small c.f1 := fun c hc => by cases hc
  have i1 := mon_in mo z hm
  have i2 := mon_in mo (z + 1) hm
  have b1 := before_mono (show 2 ≤ z by omega)
  have b2 := before_mono (show z + 1 + 1 ≤ 10000 by omega)
  rw [before_top] at b2
  have b0 : before 2 = 365 := by decide
  rw [b0] at b1
  have hd : rightB d = true := (rightB_iff d).mpr (by omega)
  obtain ⟨y, m, q, hdq⟩ := isDate_of d (by omega) (by omega)
  have hy := year_at mo z d y m q hm hdq h3 h4
  obtain ⟨a1, a2, a3, a4, a5, a6, a7⟩ := id hdq
  have hL := len_bd y m
  have hf : IsDate (d - q + 1) y m 1 := ⟨a1, a2, a3, a4, by omega, by omega, by omega⟩
  have hs : Span (d - q + 1) (len y m) := ⟨y, m, a1, a2, a3, a4, by omega, rfl⟩
  obtain ⟨x, hx, rx⟩ := fiscal_rep hs hf p mo h.1
  have hB : MonthIs [] (fn p mo) (d - q + 1) (len y m) (fun i => fy p mo (d - q + 1) (len y m) (y - 1) i || fy p mo (d - q + 1) (len y m) y i) := ⟨x, Ev.step (f := fun k => cal_fiscal.f k p mo (d - q + 1) (len y m)) (fun k => by
    rw [month.f.eq_2]; dsimp only
    rw [if_neg (by decide), if_neg (by decide), if_neg (by decide), if_neg (by decide), if_neg (by decide), if_pos rfl, if_pos (by simp)]
    rfl) hx, rx⟩
  have i3 := in_at [] (fn p mo) d (spanOf_date hdq) hs (by omega) (by omega) _ hB
  have hI := In_ev [] (by simp) hls (fn p mo) (fn_small p mo h) d
  have ho := fn_open p mo d h hd
  obtain ⟨fx, _, _⟩ := (openOf_cons [] d (fn p mo) []).mp ho
  have e1 := Ev.uniq (fx.ev hls (fn_small p mo h) d hd) i3
  unfold InOf at hI
  rw [if_pos ho, e1] at hI
  have e2 : (fy p mo (d - q + 1) (len y m) (y - 1) (d - (d - q + 1)).toNat || fy p mo (d - q + 1) (len y m) y (d - (d - q + 1)).toNat) = decide (d - mon mo z ∈ offs p) := by
    have hz := offs_bd p h.1
    have ei : d - q + 1 + (((d - (d - q + 1)).toNat : Nat) : Int) = d := by omega
    have w1 := fy_iff p mo (d - q + 1) (len y m) (y - 1) (d - (d - q + 1)).toNat hm (by omega) (by omega) (by omega)
    have w2 := fy_iff p mo (d - q + 1) (len y m) y (d - (d - q + 1)).toNat hm (by omega) (by omega) (by omega)
    rw [ei] at w1 w2
    rw [Bool.eq_iff_iff, decide_eq_true_iff, Bool.or_eq_true, w1, w2, show y - 1 + 1 = y by omega]
    constructor
    · rintro (⟨k1, k2⟩ | ⟨k1, k2⟩)
      · rcases hy with rfl | rfl
        · omega
        · exact k1
      · rcases hy with rfl | rfl
        · exact k1
        · have := hz _ k1
          rw [show y - 1 + 1 = y by omega] at h4
          omega
    · intro k
      rcases hy with rfl | rfl
      · exact .inr ⟨k, h4⟩
      · rw [show y - 1 + 1 = y by omega] at h4
        exact .inl ⟨k, h4⟩
  rw [e2] at hI
  exact hI
/-- Every day is of a fiscal year. -/
theorem year_of_day (mo d : Int) (hm : 1 ≤ mo ∧ mo ≤ 12) (h1 : 800 ≤ d) (h2 : d ≤ 3651259) : ∃ z, 2 ≤ z ∧ z ≤ 9997 ∧ mon mo z ≤ d ∧ d < mon mo (z + 1) := by
  obtain ⟨y, m, q, h⟩ := isDate_of d (by omega) (by omega)
  obtain ⟨a1, a2, a3, a4, a5, a6, rfl⟩ := h
  have c := cum_mono y 1 m (by omega) a3 (by omega)
  have c2 := cum_mono y (m + 1) 13 (by omega) (by omega) (by omega)
  rw [cum_succ y m a3 a4, cum_end] at c2
  rw [cum_one] at c
  have b := before_succ y
  have hy : 3 ≤ y ∧ y ≤ 9997 := by unfold before at *; have := lp_bd y; omega
  have i0 := mon_in mo (y - 1) hm
  have i2 := mon_in mo (y + 1) hm
  rw [show y - 1 + 1 = y by omega] at i0
  by_cases k : mon mo y ≤ before y + cum y m + q
  · exact ⟨y, by omega, by omega, k, by omega⟩
  · exact ⟨y - 1, by omega, by omega, by omega, by rw [show y - 1 + 1 = y by omega]; omega⟩
/-! ### The next period -/
def fx (p G t : Int) : Bool := if t < G then decide (t ∈ offs p) else decide (t - G ∈ offs p)
def scan (F : Int → Bool) : Nat → Int → Int
  | 0, _ => 0
  | q + 1, k => if F k = true then k else scan F q (k + 1)
theorem scan_all (p G : Int) (hp : p = 445 ∨ p = 454 ∨ p = 544) (hG : G = 364 ∨ G = 371) : ∀ o ∈ offs p, scan (fun k => fx p G (o + k)) 42 1 = 28 ∨ scan (fun k => fx p G (o + k)) 42 1 = 35 ∨ scan (fun k => fx p G (o + k)) 42 1 = 42 := by
  rcases hp with rfl | rfl | rfl <;> rcases hG with rfl | rfl <;> decide +kernel
theorem day_fx (p mo z d k : Int) (h : goodP p mo) (h1 : 2 ≤ z) (h2 : z ≤ 9997) (h3 : mon mo z ≤ d) (h4 : d < mon mo (z + 1)) (hd : d ≤ 3651259) (k1 : 0 ≤ k) (k2 : k ≤ 42) : Ev (fun q => cal_In.f q [] 6 [p, mo] [] ⟨#[]⟩ (d + k)) (fx p (mon mo (z + 1) - mon mo z) (d - mon mo z + k), 0) := by
  unfold fx
  by_cases c : d - mon mo z + k < mon mo (z + 1) - mon mo z
  · rw [if_pos c, show d - mon mo z + k = d + k - mon mo z by omega]
    exact fis_at p mo z (d + k) h h1 h2 (by omega) (by omega)
  · rw [if_neg c, show d - mon mo z + k - (mon mo (z + 1) - mon mo z) = d + k - mon mo (z + 1) by omega]
    have g := mon_gap mo (z + 1) h.2
    have i := mon_in mo (z + 1) h.2
    have b : z + 1 ≤ 9997 := by
      rcases Int.lt_or_le 9997 (z + 1) with hz | hz
      · have := before_mono (show 9998 ≤ z + 1 by omega)
        have b8 : before 9998 = 3651329 := by decide
        omega
      · exact hz
    exact fis_at p mo (z + 1) (d + k) h (by omega) b (by omega) (by omega)
theorem fin_ev (d m j p mo : Int) (hm : m = 28 ∨ m = 35 ∨ m = 42) : Ev (fun k => dayshiftlaw06_CalFiscal.l0 k d m j 6 [p, mo] ⟨#[]⟩) true := by
  have last : Ev (fun k => dayshiftlaw06_CalFiscal.j3 k d m j false 6 [p, mo] ⟨#[]⟩) true := by
    refine Ev.step (f := fun k => (dayshiftlaw06_known.f k).bind fun t => some t) (fun k => ?_) (Ev.bind known_ev (Ev.now _))
    rw [dayshiftlaw06_CalFiscal.j3.eq_2, if_neg (by decide)]
    by_cases c1 : m = 28
    · rw [if_pos c1]
    rw [if_neg c1]
    by_cases c2 : m = 35
    · rw [if_pos c2]
    rw [if_neg c2, if_pos (by omega)]
  refine Ev.step (f := fun k => dayshiftlaw06_CalFiscal.j3 k d m j false 6 [p, mo] ⟨#[]⟩) (fun k => ?_) last
  rw [dayshiftlaw06_CalFiscal.l0.eq_2]
  have e : (m == 0) = false := beq_eq_false_iff_ne.mpr (by omega)
  by_cases c : j ≤ 42
  · rw [if_pos c, e]
  · rw [if_neg c]
theorem loop_ev (p mo d : Int) (hd1 : 0 ≤ d) (hd2 : d ≤ 4000000) (F : Int → Bool) (hF : ∀ k, 1 ≤ k → k ≤ 42 → Ev (fun q => cal_In.f q [] 6 [p, mo] [] ⟨#[]⟩ (d + k)) (F k, 0)) : ∀ (q : Nat) (j : Int), 1 ≤ j → j + q = 43 → (scan F q j = 28 ∨ scan F q j = 35 ∨ scan F q j = 42) → Ev (fun k => dayshiftlaw06_CalFiscal.l0 k d 0 j 6 [p, mo] ⟨#[]⟩) true := by
  intro q
  induction q with
  | zero => intro j h1 h2 h; simp [scan] at h
  | succ q ih =>
    intro j h1 h2 h
    refine Ev.step (f := fun k => dayshiftlaw06_CalFiscal.j3 k d 0 j true 6 [p, mo] ⟨#[]⟩) (fun k => by rw [dayshiftlaw06_CalFiscal.l0.eq_2, if_pos (by omega)]; rfl) ?_
    refine Ev.step (fun k => by rw [dayshiftlaw06_CalFiscal.j3.eq_2, if_pos rfl, wrap64_id (x := d + j) (by omega) (by omega), wrap64_id (x := j + 1) (by omega) (by omega)]) (Ev.bind (hF j h1 (by omega)) ?_)
    unfold scan at h
    by_cases c : F j = true
    · simp only [if_pos c] at h ⊢
      exact fin_ev d j (j + 1) p mo h
    · simp only [if_neg c] at h ⊢
      exact ih (j + 1) (by omega) (by omega) h
theorem again_j0f (p mo d : Int) (h : goodP p mo) (b : Bool) (hb : b = false → 800 ≤ d ∧ d ≤ 3651259) : Ev (fun k => dayshiftlaw06_CalFiscal.j0 k d b 6 [p, mo] ⟨#[]⟩) true := by
  cases b with
  | true => exact Ev.step (fun k => by rw [dayshiftlaw06_CalFiscal.j0.eq_2, if_pos rfl]) (Ev.bind known_ev (Ev.now _))
  | false =>
    obtain ⟨h1, h2⟩ := hb rfl
    obtain ⟨z, z1, z2, z3, z4⟩ := year_of_day mo d h.2 h1 h2
    have hw : dayshiftref01_Weekday.f d = some ((d - 1) % 7, 0) := by
      unfold dayshiftref01_Weekday.f dayshiftref01_Right.f
      rw [if_pos (by omega), decide_eq_true (show d ≤ 3652059 by omega), Option.bind_some, if_pos rfl, wrap64_id (x := d - 1) (by omega) (by omega), Int.tmod_eq_emod_of_nonneg (by omega)]
    have hI := fis_at p mo z d h z1 z2 z3 z4
    refine Ev.step (fun k => by rw [dayshiftlaw06_CalFiscal.j0.eq_2, if_neg (by decide), hw, Option.bind_some]) (Ev.bind hI ?_)
    simp only [if_true]
    by_cases c : d - mon mo z ∈ offs p
    · have hz := offs_bd p h.1 _ c
      have hm := mon_mon mo z
      have e7 : (((d - 1) % 7 : Int) != 0) = false := bne_eq_false_iff_eq.mpr (by omega)
      rw [decide_eq_true c]
      simp only [if_true, e7]
      refine Ev.step (fun k => by rw [dayshiftlaw06_CalFiscal.j1.eq_2, if_neg (by decide), if_pos rfl]) ?_
      exact loop_ev p mo d (by omega) (by omega) (fun k => fx p (mon mo (z + 1) - mon mo z) (d - mon mo z + k)) (fun k k1 k2 => day_fx p mo z d k h z1 z2 z3 z4 h2 (by omega) k2) 42 1 (by omega) (by omega) (scan_all p _ h.1 (mon_gap mo z h.2) _ c)
    · rw [decide_eq_false c]
      simp only [Bool.false_eq_true, if_false]
      exact Ev.step (fun k => by rw [dayshiftlaw06_CalFiscal.j1.eq_2, if_neg (by decide), if_neg (by decide)]) (Ev.bind known_ev (Ev.now _))
theorem count_is (a b : Int) (hb : 1 ≤ b) (hb2 : b ≤ 1000) : ∃ r, dayshiftref01_Count.f a b = some r ∧ 0 ≤ r ∧ r < b := by
  unfold dayshiftref01_Count.f
  rw [if_neg (by omega), if_neg (by omega)]
  have t : -b < Int.tmod a b ∧ Int.tmod a b < b := by
    rcases Int.le_total 0 a with h | h
    · rw [Int.tmod_eq_emod_of_nonneg h]
      have := Int.emod_nonneg a (show b ≠ 0 by omega)
      have := Int.emod_lt_of_pos a (show 0 < b by omega)
      omega
    · have e : Int.tmod a b = - ((-a) % b) := by
        rw [← Int.tmod_eq_emod_of_nonneg (show 0 ≤ -a by omega), Int.neg_tmod]
        omega
      have := Int.emod_nonneg (-a) (show b ≠ 0 by omega)
      have := Int.emod_lt_of_pos (-a) (show 0 < b by omega)
      omega
  by_cases c : Int.tmod a b < 0
  · rw [if_pos c, wrap64_id (by omega) (by omega)]
    exact ⟨_, rfl, by omega, by omega⟩
  · rw [if_neg c]
    exact ⟨_, rfl, by omega, by omega⟩
theorem fiscal_pure (a0 a1 a2 : Int) (h0 : (Lit.int .i64 a0).wf = true) (h1 : (Lit.int .i64 a1).wf = true) (h2 : (Lit.int .i64 a2).wf = true) : ∃ k, dayshiftlaw06_CalFiscal.f k a0 a1 a2 = some true := by
  have h : Ev (fun k => dayshiftlaw06_CalFiscal.f k a0 a1 a2) true := by
    unfold dayshiftlaw06_CalFiscal.f
    obtain ⟨r, hr, r1, r2⟩ := count_is a0 3 (by omega) (by omega)
    obtain ⟨t, ht, t1, t2⟩ := count_is a1 12 (by omega) (by omega)
    have hp : rd [445, 454, 544] r = 445 ∨ rd [445, 454, 544] r = 454 ∨ rd [445, 454, 544] r = 544 := by
      have : r = 0 ∨ r = 1 ∨ r = 2 := by omega
      rcases this with rfl | rfl | rfl
      · exact .inl rfl
      · exact .inr (.inl rfl)
      · exact .inr (.inr rfl)
    have hg : goodP (rd [445, 454, 544] r) (wrap64 (1 + t)) := ⟨hp, by rw [wrap64_id (by omega) (by omega)]; omega, by rw [wrap64_id (by omega) (by omega)]; omega⟩
    simp only [Option.bind_some, hr, ht, if_pos r1, show ((([445, 454, 544] : List Int).length : Nat) : Int) = 3 from rfl, if_pos r2]
    by_cases c : a2 < 800
    · simp only [if_pos c]
      exact again_j0f _ _ a2 hg true (fun h => by cases h)
    · simp only [if_neg c]
      exact again_j0f _ _ a2 hg _ (fun h => ⟨by omega, by have := of_decide_eq_false h; omega⟩)
  exact h.rounds
end Go.Proofs.YtpcjbnaggeiaoaaDoor.QCalMoved
