/- A month's days of a node, as bits; with enough rounds. No conditions beyond those that each theorem names. -/
import Derived.Test.YtpcjbnaggeiaoaaDoorQCalMovedCalTot2
namespace Go.Proofs.YtpcjbnaggeiaoaaDoor.QCalMoved
open Go.RowKit Go.Proofs.YtpcjbnaggeiaoaaDoor.PCalMoved Go.Proofs.YtpcjbnaggeiaoaaDoorW.PrintWords Go.Proofs.YtpcjbnaggeiaoaaDoorW.PrintLast Go.Proofs.YtpcjbnaggeiaoaaDoorW.PrintMore Go.Proofs.YtpcjbnaggeiaoaaDoor.MDate Go.Proofs.YtpcjbnaggeiaoaaDoor.MBits
set_option linter.unusedVariables false
set_option linter.unusedSimpArgs false
/-! ### Months -/
def Span (f g : Int) : Prop := ∃ y m, 1 ≤ y ∧ y ≤ 9999 ∧ 1 ≤ m ∧ m ≤ 12 ∧ f = before y + cum y m + 1 ∧ g = len y m
theorem Span.first {f g : Int} (h : Span f g) : ∃ y m, IsDate f y m 1 ∧ g = len y m := by
  obtain ⟨y, m, h1, h2, h3, h4, rfl, rfl⟩ := h
  have := len_pos y m h3 h4
  exact ⟨y, m, ⟨h1, h2, h3, h4, by omega, by omega, rfl⟩, rfl⟩
theorem Span.bd {f g : Int} (h : Span f g) : 1 ≤ f ∧ 28 ≤ g ∧ g ≤ 31 ∧ f + g - 1 ≤ 3652059 := by
  obtain ⟨y, m, h1, h2, h3, h4, rfl, rfl⟩ := h
  have a := len_pos y m h3 h4
  have b := len_bd y m
  have c : IsDate (before y + cum y m + len y m) y m (len y m) := ⟨h1, h2, h3, h4, by omega, by omega, rfl⟩
  have d : IsDate (before y + cum y m + 1) y m 1 := ⟨h1, h2, h3, h4, by omega, by omega, rfl⟩
  have := c.range
  have := d.range
  omega
theorem spanOf_date {n y m d : Int} (h : IsDate n y m d) : Ev (fun k => cal_spanOf.f k n) (n - d + 1, len y m) := by
  refine ⟨20, fun k hk => ?_⟩
  dsimp only
  obtain ⟨y', m', d', h1, h2⟩ := Date_ok k hk n h.range.1 h.range.2
  obtain ⟨rfl, rfl, rfl⟩ := h2.uniq h
  have hm : week_month.f k n = some (n - d' + 1, len y' m', 0) := by
    unfold week_month.f
    obtain ⟨r1, r2⟩ := h.range
    obtain ⟨a1, a2, a3, a4, a5, a6, a7⟩ := h
    have := len_bd y' m'
    rw [h1, Option.bind_some]
    dsimp only
    rw [if_pos rfl, Len_eq, Option.bind_some, wrap64_id (x := n - d') (by omega) (by omega), wrap64_id (by omega) (by omega)]
  obtain ⟨r1, r2⟩ := h.range
  obtain ⟨a1, a2, a3, a4, a5, a6, a7⟩ := h
  have := len_bd y' m'
  unfold cal_spanOf.f week_First.f week_Last.f
  rw [hm]
  simp only [Option.bind_some, if_true]
  rw [wrap64_id (x := n - d' + 1 + len y' m') (by omega) (by omega), wrap64_id (x := n - d' + 1 + len y' m' - 1) (by omega) (by omega), wrap64_id (x := n - d' + 1 + len y' m' - 1 - (n - d' + 1)) (by omega) (by omega), wrap64_id (by omega) (by omega)]
  congr 2
  omega
theorem isDate_of (n : Int) (h1 : 1 ≤ n) (h2 : n ≤ 3652059) : ∃ y m d, IsDate n y m d := by
  obtain ⟨y, m, d, _, h⟩ := Date_ok 20 (by omega) n h1 h2
  exact ⟨y, m, d, h⟩
theorem span_at (n : Int) (h1 : 1 ≤ n) (h2 : n ≤ 3652059) : ∃ f g, Ev (fun k => cal_spanOf.f k n) (f, g) ∧ Span f g ∧ f ≤ n ∧ n < f + g := by
  obtain ⟨y, m, d, h⟩ := isDate_of n h1 h2
  obtain ⟨a1, a2, a3, a4, a5, a6, a7⟩ := h
  exact ⟨n - d + 1, len y m, spanOf_date ⟨a1, a2, a3, a4, a5, a6, a7⟩, ⟨y, m, a1, a2, a3, a4, by omega, rfl⟩, by omega, by omega⟩
theorem span_self {f g : Int} (h : Span f g) : Ev (fun k => cal_spanOf.f k f) (f, g) := by
  obtain ⟨y, m, hd, rfl⟩ := h.first
  have := spanOf_date hd
  rwa [show f - 1 + 1 = f by omega] at this
/-- A day of a month alone. -/
theorem bit_rep {f g : Int} (h : Span f g) (d : Int) (hd : -9223372036854775808 ≤ d ∧ d ≤ 9223372036854775807) : ∃ x, cal_span_bit.f f g d = some x ∧ Rep x (fun i => decide (d = f + (i : Int)) && decide ((i : Int) < g)) := by
  obtain ⟨b1, b2, b3, b4⟩ := h.bd
  unfold cal_span_bit.f
  by_cases c1 : d < f
  · refine ⟨0, by rw [if_pos c1], zero_rep.congr fun i hi => ?_⟩
    rw [decide_eq_false (show ¬ d = f + (i : Int) by omega)]; rfl
  by_cases c2 : d ≥ wrap64 (f + g)
  · refine ⟨0, by rw [if_neg c1, if_pos c2], zero_rep.congr fun i hi => ?_⟩
    rw [wrap64_id (by omega) (by omega)] at c2
    by_cases c3 : d = f + (i : Int)
    · rw [decide_eq_false (show ¬ (i : Int) < g by omega), Bool.and_false]
    · rw [decide_eq_false c3]; rfl
  · rw [if_neg c1, if_neg c2]
    rw [wrap64_id (by omega) (by omega)] at c2
    obtain ⟨t, ht⟩ : ∃ t : Nat, d - f = t := ⟨(d - f).toNat, by omega⟩
    refine ⟨_, rfl, ?_⟩
    rw [wrap64_id (x := d - f) (by omega) (by omega), ht, show ((t : Int) % 256) = (t : Int) by omega]
    refine (one_rep t (by omega)).congr fun i hi => ?_
    by_cases c3 : t = i
    · rw [decide_eq_true c3, decide_eq_true (show d = f + (i : Int) by omega), decide_eq_true (show (i : Int) < g by omega)]; rfl
    · rw [decide_eq_false c3, decide_eq_false (show ¬ d = f + (i : Int) by omega)]; rfl
def MonthIs (l : List CC) (n : CN) (f g : Int) (B : Nat → Bool) : Prop := ∃ x, Ev (fun k => month.f k l n f g) x ∧ Rep x B
/-- The mask's days. -/
def inM (g : Int) (i : Nat) : Bool := decide ((i : Int) < g) && decide (i < 31)
theorem month_l1 {f g : Int} (h : Span f g) (ns : List Int) (hl : ns.length ≤ 1000000000000000000) (hw : ∀ x ∈ ns, -9223372036854775808 ≤ x ∧ x ≤ 9223372036854775807) : ∀ (d i : Nat) (m : Int) (M : Nat → Bool), i + d = ns.length → Rep m M → ∃ x, Ev (fun k => month.l1 k ns (i : Int) f g m) x ∧ Rep x (fun j => M j || (ns.drop i).any fun z => decide (z = f + (j : Int)) && decide ((j : Int) < g)) := by
  intro d
  induction d with
  | zero =>
    intro i m M hi hm
    refine ⟨m, Ev.step (fun k => by rw [month.l1.eq_2, if_neg (by omega)]) (Ev.now _), hm.congr fun j _ => ?_⟩
    rw [List.drop_eq_nil_of_le (by omega)]; simp
  | succ d ih =>
    intro i m M hi hm
    have hlt : i < ns.length := by omega
    have e : rd ns (i : Int) = ns[i] := by unfold rd; rw [Int.toNat_natCast, List.getD_eq_getElem?_getD, List.getElem?_eq_getElem hlt]; rfl
    obtain ⟨b, hb, rb⟩ := bit_rep h ns[i] (hw _ (List.getElem_mem hlt))
    obtain ⟨x, hx, rx⟩ := ih (i + 1) _ _ (by omega) (hm.or rb)
    refine ⟨x, Ev.step (fun k => by rw [month.l1.eq_2, if_pos (by omega), if_pos (by omega), e, hb, Option.bind_some, wrap64_id (x := (i : Int) + 1) (by omega) (by omega)]; rfl) hx, rx.congr fun j _ => ?_⟩
    rw [List.drop_eq_getElem_cons hlt, List.any_cons, Bool.or_assoc]
theorem month_l2 {f g : Int} (l : List CC) (ks : List CN) (hl : ks.length ≤ 1000000000000000000) (B : CN → Nat → Bool) (hB : ∀ c ∈ ks, MonthIs l c f g (B c)) : ∀ (d i : Nat) (m : Int) (M : Nat → Bool), i + d = ks.length → Rep m M → ∃ x, Ev (fun k => month.l2 k l ks (i : Int) f g m) x ∧ Rep x (fun j => M j && (ks.drop i).all fun c => B c j) := by
  intro d
  induction d with
  | zero =>
    intro i m M hi hm
    refine ⟨m, Ev.step (fun k => by rw [month.l2.eq_2, if_neg (by omega)]) (Ev.now _), hm.congr fun j _ => ?_⟩
    rw [List.drop_eq_nil_of_le (by omega)]; simp
  | succ d ih =>
    intro i m M hi hm
    have hlt : i < ks.length := by omega
    obtain ⟨b, hb, rb⟩ := hB ks[i] (List.getElem_mem hlt)
    obtain ⟨x, hx, rx⟩ := ih (i + 1) _ _ (by omega) (hm.and rb)
    refine ⟨x, Ev.step (fun k => by rw [month.l2.eq_2, if_pos (by omega), if_pos (by omega), rdN_at ks i hlt, wrap64_id (x := (i : Int) + 1) (by omega) (by omega)]) (Ev.bind hb (by simpa using hx)), rx.congr fun j _ => ?_⟩
    rw [List.drop_eq_getElem_cons hlt, List.all_cons, Bool.and_assoc]
theorem month_l3 {f g : Int} (l : List CC) (ks : List CN) (hl : ks.length ≤ 1000000000000000000) (B : CN → Nat → Bool) (hB : ∀ c ∈ ks, MonthIs l c f g (B c)) : ∀ (d i : Nat) (m : Int) (M : Nat → Bool), i + d = ks.length → Rep m M → ∃ x, Ev (fun k => month.l3 k l ks (i : Int) f g m) x ∧ Rep x (fun j => M j || (ks.drop i).any fun c => B c j) := by
  intro d
  induction d with
  | zero =>
    intro i m M hi hm
    refine ⟨m, Ev.step (fun k => by rw [month.l3.eq_2, if_neg (by omega)]) (Ev.now _), hm.congr fun j _ => ?_⟩
    rw [List.drop_eq_nil_of_le (by omega)]; simp
  | succ d ih =>
    intro i m M hi hm
    have hlt : i < ks.length := by omega
    obtain ⟨b, hb, rb⟩ := hB ks[i] (List.getElem_mem hlt)
    obtain ⟨x, hx, rx⟩ := ih (i + 1) _ _ (by omega) (hm.or rb)
    refine ⟨x, Ev.step (fun k => by rw [month.l3.eq_2, if_pos (by omega), if_pos (by omega), rdN_at ks i hlt, wrap64_id (x := (i : Int) + 1) (by omega) (by omega)]) (Ev.bind hb (by simpa using hx)), rx.congr fun j _ => ?_⟩
    rw [List.drop_eq_getElem_cons hlt, List.any_cons, Bool.or_assoc]
theorem month_and {f g : Int} (l : List CC) (ns : List Int) (ks : List CN) (nm : ByteArray) (hl : ks.length ≤ 1000000000000000000) (B : CN → Nat → Bool) (hB : ∀ c ∈ ks, MonthIs l c f g (B c)) : MonthIs l ⟨7, ns, ks, nm⟩ f g (fun j => inM g j && ks.all fun c => B c j) := by
  obtain ⟨a, ha, ra⟩ := All_rep g
  obtain ⟨x, hx, rx⟩ := month_l2 l ks hl B hB ks.length 0 a _ (by omega) ra
  refine ⟨x, Ev.step (fun k => by rw [month.f.eq_2]; dsimp only; rw [if_neg (by decide), if_neg (by decide), if_neg (by decide), if_neg (by decide), if_neg (by decide), if_neg (by decide), if_pos rfl]) (Ev.bind (Ev.const ha) (by simpa using hx)), rx.congr fun j _ => by simp [inM]⟩
theorem month_or {f g : Int} (l : List CC) (ns : List Int) (ks : List CN) (nm : ByteArray) (hl : ks.length ≤ 1000000000000000000) (B : CN → Nat → Bool) (hB : ∀ c ∈ ks, MonthIs l c f g (B c)) : MonthIs l ⟨8, ns, ks, nm⟩ f g (fun j => ks.any fun c => B c j) := by
  obtain ⟨x, hx, rx⟩ := month_l3 l ks hl B hB ks.length 0 0 _ (by omega) zero_rep
  refine ⟨x, Ev.step (f := fun k => month.l3 k l ks 0 f g 0) (fun k => by rw [month.f.eq_2]; dsimp only; rw [if_neg (by decide), if_neg (by decide), if_neg (by decide), if_neg (by decide), if_neg (by decide), if_neg (by decide), if_neg (by decide), if_pos rfl]) (by simpa using hx), rx.congr fun j _ => by simp⟩
theorem month_not {f g : Int} (l : List CC) (ns : List Int) (c : CN) (ks : List CN) (nm : ByteArray) (B : Nat → Bool) (hB : MonthIs l c f g B) : MonthIs l ⟨9, ns, c :: ks, nm⟩ f g (fun j => inM g j && !B j) := by
  obtain ⟨a, ha, ra⟩ := All_rep g
  obtain ⟨b, hb, rb⟩ := hB
  refine ⟨Go.bits .andNot .u32 a b, Ev.step (f := fun k => (month.f k l c f g).bind fun m => mask_Month_Not.f m g) (fun k => by rw [month.f.eq_2]; dsimp only; rw [if_neg (by decide), if_neg (by decide), if_neg (by decide), if_neg (by decide), if_neg (by decide), if_neg (by decide), if_neg (by decide), if_neg (by decide), if_pos rfl, if_pos (by simp), show rd_T31 (c :: ks) 0 = c from rfl]) (Ev.bind hb (Ev.const (by unfold mask_Month_Not.f; rw [ha]; rfl))), (ra.andNot rb).congr fun j _ => by simp [inM]⟩
/-- Whether a day is one of a node's. -/
theorem in_at (l : List CC) (n : CN) (d : Int) {f g : Int} (hs : Ev (fun k => cal_spanOf.f k d) (f, g)) (h : Span f g) (h1 : f ≤ d) (h2 : d < f + g) (B : Nat → Bool) (hB : MonthIs l n f g B) : Ev (fun k => in.f k l n d) (B (d - f).toNat) := by
  obtain ⟨x, hx, rx⟩ := hB
  obtain ⟨b1, b2, b3, b4⟩ := h.bd
  obtain ⟨b, hb, rb⟩ := bit_rep h d ⟨by omega, by omega⟩
  unfold in.f
  refine Ev.bind hs ?_
  simp only [if_pos (show 0 ≤ f by omega), if_pos (show f ≤ 3652059 by omega)]
  refine Ev.bind (span_self h) ?_
  simp only [if_true]
  refine Ev.bind hx ?_
  simp only [hb, Option.bind_some]
  obtain ⟨t, ht⟩ : ∃ t : Nat, d - f = t := ⟨(d - f).toNat, by omega⟩
  have hr : Rep (Go.bits .and .u32 x b) (fun i => B i && (decide (d = f + (i : Int)) && decide ((i : Int) < g))) := rx.and rb
  have he : (Go.bits .and .u32 x b != 0) = B (d - f).toNat := by
    rw [ht, Int.toNat_natCast]
    cases hBt : B t with
    | false =>
      have : Go.bits .and .u32 x b = 0 := hr.uniq (zero_rep.congr fun i hi => by
        by_cases c : d = f + (i : Int)
        · have : i = t := by omega
          rw [this, hBt]; rfl
        · rw [decide_eq_false c]; simp)
      rw [this]; rfl
    | true =>
      rw [bne_iff_ne]
      intro h0
      obtain ⟨M, hM, _, hbit⟩ := hr
      rw [h0] at hM
      have hM0 : M = 0 := by omega
      have := hbit t (by omega)
      dsimp only at this
      rw [hM0, Nat.zero_testBit, hBt, decide_eq_true (show d = f + (t : Int) by omega), decide_eq_true (show (t : Int) < g by omega)] at this
      simp at this
  rw [he]
  exact Ev.now _
end Go.Proofs.YtpcjbnaggeiaoaaDoor.QCalMoved
