/- Every node that can be walked over has a month's days; so In ends, for all calendars and nodes. No conditions beyond those that each theorem names. -/
import Derived.Test.YtpcjbnaggeiaoaaDoorQCalMovedCalTot4
namespace Go.Proofs.YtpcjbnaggeiaoaaDoor.QCalMoved
open Go.RowKit Go.Proofs.YtpcjbnaggeiaoaaDoor.PCalMoved Go.Proofs.YtpcjbnaggeiaoaaDoorW.PrintWords Go.Proofs.YtpcjbnaggeiaoaaDoorW.PrintLast Go.Proofs.YtpcjbnaggeiaoaaDoorW.PrintMore Go.Proofs.YtpcjbnaggeiaoaaDoor.MDate Go.Proofs.YtpcjbnaggeiaoaaDoor.MBits
set_option linter.unusedVariables false
set_option linter.unusedSimpArgs false
theorem rightN_open {d : Nat} {n : CN} (h : rightN d n = true) : ∃ e, d = e + 1 ∧ 1 ≤ n.f0 ∧ n.f0 ≤ 10 ∧ numsB n = true ∧ kidsB n = true ∧ ∀ c ∈ n.f2, rightN e c = true := by
  cases d with
  | zero => simp [rightN] at h
  | succ e =>
    simp only [rightN, Bool.and_eq_true, decide_eq_true_eq] at h
    obtain ⟨⟨h1, h2⟩, h3, h4, h5, h6⟩ := h
    exact ⟨e, rfl, h1, h2, h3, h4, fun c hc => List.all_eq_true.mp h6 c hc⟩
theorem wf_u32 {x : Int} {B : Nat → Bool} (h : Rep x B) : (Lit.int .u32 x).wf = true := by
  obtain ⟨M, rfl, hM, _⟩ := h
  simp [Lit.wf, IntKind.min, IntKind.max, IntKind.bits, IntKind.signed]
  omega
theorem wf_i64 {x : Int} (h1 : -9223372036854775808 ≤ x) (h2 : x ≤ 9223372036854775807) : (Lit.int .i64 x).wf = true := by
  simp [Lit.wf, IntKind.min, IntKind.max, IntKind.bits, IntKind.signed]
  omega
theorem named_is (l : List CC) (hl : l.length ≤ 1000000000000000000) (name : ByteArray) (hn : name.size ≤ 140737488351232) {f g : Int} (h : Span f g) (j : Nat) (hj : j < l.length) (hf : findIdx1 (cal_Find.p name) l = (j : Int)) {x : Int} {B : Nat → Bool} (hx : Ev (fun k => month.f k l l[j].f1 f g) x) (rx : Rep x B) : Ev (fun k => named.f k l name f g) x := by
  obtain ⟨b1, b2, b3, b4⟩ := h.bd
  refine Ev.step (f := fun k => (month.f k l l[j].f1 f g).bind fun m => if (Lit.int .u32 m).wf = true then some m else none) (fun k => by rw [named.f.eq_2, if_pos (by unfold maxLen; omega), if_pos (wf_i64 (by omega) (by omega)), Find_eq l name hl, Option.bind_some, hf, if_pos (by omega), if_pos (by omega), rdC_at l j hj]) ?_
  refine Ev.bind hx ?_
  simp only [if_pos (wf_u32 rx)]
  exact Ev.now _
theorem dayList_bd (B : Nat → Bool) : ∀ z ∈ dayList B, 1 ≤ z ∧ z ≤ 31 := by
  intro z hz
  simp only [dayList, idxs, List.mem_map, List.mem_filter, List.mem_range] at hz
  obtain ⟨a, ⟨⟨b, hb, rfl⟩, _⟩, rfl⟩ := hz
  omega
theorem mnth_bd (B : Nat → Bool) (k : Int) : 0 ≤ mnthOf (dayList B) k ∧ mnthOf (dayList B) k ≤ 31 := by
  have hr : ∀ i, 0 ≤ rd (dayList B) i ∧ rd (dayList B) i ≤ 31 := by
    intro i
    unfold rd
    rw [List.getD_eq_getElem?_getD]
    cases h : (dayList B)[i.toNat]? with
    | none => simp
    | some z =>
      obtain ⟨hi, hz⟩ := List.getElem?_eq_some_iff.mp h
      have := dayList_bd B z (hz ▸ List.getElem_mem hi)
      simp
      omega
  unfold mnthOf
  have h1 := hr ((dayList B).length + k)
  have h2 := hr (k - 1)
  split
  · split
    · omega
    · exact h1
  · split
    · omega
    · split
      · omega
      · exact h2
theorem l0_all {l : List CC} {ks : List CN} {refs : Int} {work : Bool} (hkl : ks.length ≤ 1000000000000000000) : ∀ (k : Nat) (i : Nat) (met met' : Int), cal_book_walk.l0 k l met ks (i : Int) refs work = some (0, met') → ∀ (j : Nat) (hj : j < ks.length), i ≤ j → ∃ k1 met1 met2, k1 < k ∧ cal_book_walk.f k1 l met1 ks[j] refs work = some (0, met2) := by
  intro k
  induction k with
  | zero => intro i met met' h; simp [cal_book_walk.l0] at h
  | succ k ih =>
    intro i met met' h j hj hij
    have hlt : i < ks.length := by omega
    rw [cal_book_walk.l0.eq_2, if_pos (by omega), if_pos (by omega), rdN_at ks i hlt, wrap64_id (x := (i : Int) + 1) (by omega) (by omega)] at h
    obtain ⟨t, ht, h⟩ := Option.bind_eq_some_iff.mp h
    by_cases z : t.1 = 0
    · rw [if_pos z] at h
      by_cases e : i = j
      · subst e
        exact ⟨k, met, t.2, Nat.lt_succ_self _, by rw [ht, ← z]⟩
      · obtain ⟨k1, a, b, hk1, hf⟩ := ih (i + 1) t.2 met' h j hj (by omega)
        exact ⟨k1, a, b, by omega, hf⟩
    · rw [if_neg z] at h
      have := Option.some.inj h
      rw [this] at z
      exact absurd rfl z
open Classical in
theorem month_tot (l : List CC) (hl : l.length ≤ 1000000000000000000) (hls : ∀ c ∈ l, Small c.f1) (hR : ∀ c ∈ l, rightN 16 c.f1 = true) {f g : Int} (h : Span f g) : ∀ (k : Nat) (met : Int) (n : CN) (refs : Int) (work : Bool) (met' : Int), cal_book_walk.f k l met n refs work = some (0, met') → Small n → (∃ d, rightN d n = true) → ∃ B, MonthIs l n f g B := by
  intro k
  induction k using Nat.strongRecOn with
  | _ k ihs =>
  cases k with
  | zero => intro met n refs work met' hk; simp [cal_book_walk.f] at hk
  | succ k =>
    intro met n refs work met' hk hn hd
    obtain ⟨d, hd⟩ := hd
    obtain ⟨e, rfl, o1, o10, hnum, hkid, hkr⟩ := rightN_open hd
    obtain ⟨b1, b2, b3, b4⟩ := h.bd
    rw [cal_book_walk.f.eq_2] at hk
    by_cases c : wrap64 (met + 1) > 256
    · rw [if_pos c] at hk; cases hk
    rw [if_neg c] at hk
    -- where a name goes
    have go : ∀ work2, ((cal_Find.f l n.f3).bind fun i => if i < 0 then some (21, wrap64 (met + 1)) else if refs = 24 then some (23, wrap64 (met + 1)) else if i < (l.length : Int) then cal_book_walk.f k l (wrap64 (met + 1)) (rd_T48 l i).f1 (wrap64 (refs + 1)) work2 else none) = some ((0 : Int), met') → ∃ x B, Ev (fun k => named.f k l n.f3 f g) x ∧ Rep x B := by
      intro work2 hk
      rw [Find_eq l _ hl, Option.bind_some] at hk
      obtain ⟨f1, f2⟩ := find_bd (cal_Find.p n.f3) l
      by_cases c1 : findIdx1 (cal_Find.p n.f3) l < 0
      · rw [if_pos c1] at hk; cases hk
      rw [if_neg c1] at hk
      by_cases c2 : refs = 24
      · rw [if_pos c2] at hk; cases hk
      rw [if_neg c2, if_pos f1] at hk
      obtain ⟨j, hj⟩ : ∃ j : Nat, findIdx1 (cal_Find.p n.f3) l = j := ⟨(findIdx1 (cal_Find.p n.f3) l).toNat, by omega⟩
      rw [hj] at f1 hk
      have hjl : j < l.length := by omega
      rw [rdC_at l j hjl] at hk
      have hm := List.getElem_mem hjl
      obtain ⟨B, x, hx, rx⟩ := ihs k (Nat.lt_succ_self _) _ _ _ _ _ hk (hls _ hm) ⟨16, hR _ hm⟩
      exact ⟨x, B, named_is l hl n.f3 hn.name h j hjl hj hx rx, rx⟩
    have kids : cal_book_walk.l0 k l (wrap64 (met + 1)) n.f2 0 refs work = some (0, met') → ∃ B : CN → Nat → Bool, ∀ c ∈ n.f2, MonthIs l c f g (B c) := by
      intro hk
      have hall : ∀ c ∈ n.f2, ∃ B, MonthIs l c f g B := by
        intro c hc
        obtain ⟨j, hj, rfl⟩ := List.getElem_of_mem hc
        obtain ⟨k1, m1, m2, hk1, hf⟩ := l0_all hn.len2 k 0 _ met' hk j hj (Nat.zero_le _)
        exact ihs k1 (by omega) _ _ _ _ _ hf (hn.kids _ hc) ⟨e, hkr _ hc⟩
      exact ⟨fun c => if hc : c ∈ n.f2 then Classical.choose (hall c hc) else fun _ => false, fun c hc => by dsimp only; rw [dif_pos hc]; exact Classical.choose_spec (hall c hc)⟩
    obtain ⟨op, ns, ks, nm⟩ := n
    simp only at hk go kids o1 o10 ⊢
    by_cases q5 : op = 5
    · subst q5
      rw [if_pos rfl] at hk
      cases work with
      | true => rw [if_pos rfl] at hk; cases hk
      | false =>
        rw [if_neg (by decide)] at hk
        obtain ⟨x, B, hx, rx⟩ := go true hk
        have hlen : 0 < ns.length := by
          simp [numsB] at hnum
          omega
        have hN : Ev (fun k => mask_Month_Nth.f k x (rd ns 0)) (mnthOf (dayList B) (rd ns 0)) := ⟨40, fun k hk => Nth_rep rx k hk _⟩
        obtain ⟨m0, m31⟩ := mnth_bd B (rd ns 0)
        have unf : ∀ k, month.f (k + 1) l ⟨5, ns, ks, nm⟩ f g = ((named.f k l nm f g).bind fun m => (mask_Month_Nth.f k m (rd ns 0)).bind fun d => if d > 0 then cal_span_bit.f f g (wrap64 (wrap64 (f + d) - 1)) else some 0) := fun k => by
          rw [month.f.eq_2]; dsimp only
          rw [if_neg (by decide), if_neg (by decide), if_neg (by decide), if_neg (by decide), if_pos rfl, if_pos hlen]
        by_cases z : mnthOf (dayList B) (rd ns 0) > 0
        · obtain ⟨b, hb, rb⟩ := bit_rep h (wrap64 (wrap64 (f + mnthOf (dayList B) (rd ns 0)) - 1)) (by rw [wrap64_id (x := f + mnthOf (dayList B) (rd ns 0)) (by omega) (by omega), wrap64_id (by omega) (by omega)]; omega)
          refine ⟨_, b, Ev.step unf (Ev.bind hx (Ev.bind hN ?_)), rb⟩
          simp only [if_pos z]
          exact Ev.const hb
        · refine ⟨_, 0, Ev.step unf (Ev.bind hx (Ev.bind hN ?_)), zero_rep⟩
          simp only [if_neg z]
          exact Ev.now _
    rw [if_neg q5] at hk
    by_cases q10 : op = 10
    · subst q10
      rw [if_pos rfl] at hk
      obtain ⟨x, B, hx, rx⟩ := go work hk
      refine ⟨B, x, Ev.step (f := fun k => named.f k l nm f g) (fun k => by rw [month.f.eq_2]; dsimp only; rw [if_neg (by decide), if_neg (by decide), if_neg (by decide), if_neg (by decide), if_neg (by decide), if_neg (by decide), if_neg (by decide), if_neg (by decide), if_neg (by decide), if_pos rfl]) hx, rx⟩
    rw [if_neg q10] at hk
    obtain ⟨B, hB⟩ := kids hk
    by_cases q7 : op = 7
    · subst q7; exact ⟨_, month_and l ns ks nm hn.len2 B hB⟩
    by_cases q8 : op = 8
    · subst q8; exact ⟨_, month_or l ns ks nm hn.len2 B hB⟩
    by_cases q9 : op = 9
    · subst q9
      simp [kidsB] at hkid
      match ks, hkid with
      | [c], _ => exact ⟨_, month_not l ns c [] nm (B c) (hB c (by simp))⟩
    obtain ⟨y, m, hdate, hg⟩ := h.first
    by_cases q1 : op = 1
    · subst q1
      simp [numsB] at hnum
      obtain ⟨hlen, hwi⟩ := hnum
      simp [withinB] at hwi
      obtain ⟨M, hM⟩ : ∃ M : Nat, rd ns 0 = M := ⟨(rd ns 0).toNat, by omega⟩
      have hM2 : (rd ns 0) % 256 = (M : Int) := by omega
      obtain ⟨x, _, rx⟩ := Week_rep M (by omega) ((f - 1) % 7) g 40 (Nat.le_refl _)
      have hx : Ev (fun k => mask_Week.f k (M : Int) ((f - 1) % 7) g) x := ⟨40, fun k hk => by
        obtain ⟨x', hx', rx'⟩ := Week_rep M (by omega) ((f - 1) % 7) g k hk
        rw [rx.uniq rx']; exact hx'⟩
      refine ⟨_, x, Ev.step (f := fun k => mask_Week.f k (M : Int) ((f - 1) % 7) g) (fun k => by rw [month.f.eq_2]; dsimp only; rw [if_pos rfl, if_pos (by omega), Weekday_eq, Option.bind_some, weekday_in (by omega) (by omega), hM2]) hx, rx⟩
    by_cases q2 : op = 2
    · subst q2
      obtain ⟨x, hx, rx⟩ := month_l1 h ns hn.len1 hn.nums ns.length 0 0 _ (by omega) zero_rep
      exact ⟨_, x, Ev.step (f := fun k => month.l1 k ns 0 f g 0) (fun k => by rw [month.f.eq_2]; dsimp only; rw [if_neg (by decide), if_pos rfl]) (by simpa using hx), rx⟩
    by_cases q3 : op = 3
    · subst q3
      simp [numsB] at hnum
      obtain ⟨x, _, rx⟩ := Days_rep g (by omega) ns (by omega) hn.nums (2 * ns.length + 1) (by omega)
      refine ⟨_, x, Ev.step (f := fun k => mask_Days.f k ns g) (fun k => by rw [month.f.eq_2]; dsimp only; rw [if_neg (by decide), if_neg (by decide), if_pos rfl]) ⟨2 * ns.length + 1, fun k hk => ?_⟩, rx⟩
      obtain ⟨x', hx', rx'⟩ := Days_rep g (by omega) ns (by omega) hn.nums k (by omega)
      rw [rx.uniq rx']; exact hx'
    by_cases q4 : op = 4
    · subst q4
      simp [numsB] at hnum
      have hD : Ev (fun k => date_Date.f k f) (y, m, 1, 0) := ⟨20, fun k hk => by
        obtain ⟨y', m', d', h1, h2⟩ := Date_ok k hk f hdate.range.1 hdate.range.2
        obtain ⟨rfl, rfl, rfl⟩ := h2.uniq hdate
        exact h1⟩
      have hN : Ev (fun k => week_Nth.f k y m (rd ns 0) (rd ns 1)) (nthOf y m (rd ns 0) (rd ns 1)) := ⟨20, fun k hk => Nth_eq k hk _ _ _ _⟩
      have unf : ∀ k, month.f (k + 1) l ⟨4, ns, ks, nm⟩ f g = ((date_Date.f k f).bind fun d => (week_Nth.f k d.1 d.2.1 (rd ns 0) (rd ns 1)).bind fun q => if q.2 = 0 then cal_span_bit.f f g q.1 else some 0) := fun k => by
        rw [month.f.eq_2]; dsimp only
        rw [if_neg (by decide), if_neg (by decide), if_neg (by decide), if_pos rfl, if_pos (by omega)]
      have nbd : -9223372036854775808 ≤ (nthOf y m (rd ns 0) (rd ns 1)).1 ∧ (nthOf y m (rd ns 0) (rd ns 1)).1 ≤ 9223372036854775807 := by
        unfold nthOf
        have hr := hdate.range
        obtain ⟨a1, a2, a3, a4, a5, a6, a7⟩ := hdate
        have hL := len_bd y m
        split
        · dsimp only; omega
        split
        · dsimp only; omega
        split
        · dsimp only; omega
        split
        · dsimp only; omega
        split
        · dsimp only; omega
        split
        · dsimp only; omega
        unfold nth
        have ho := off_bd (rd ns 0) ((before y + cum y m + 1 - 1) % 7)
        have hc : cnt (len y m) (off (rd ns 0) ((before y + cum y m + 1 - 1) % 7)) ≤ 6 := by unfold cnt; omega
        dsimp only
        repeat' split
        all_goals (first | omega | (dsimp only; omega))
      by_cases z : (nthOf y m (rd ns 0) (rd ns 1)).2 = 0
      · obtain ⟨b, hb, rb⟩ := bit_rep h _ nbd
        refine ⟨_, b, Ev.step unf (Ev.bind hD (Ev.bind hN ?_)), rb⟩
        simp only [if_pos z]
        exact Ev.const hb
      · refine ⟨_, 0, Ev.step unf (Ev.bind hD (Ev.bind hN ?_)), zero_rep⟩
        simp only [if_neg z]
        exact Ev.now _
    · have q6 : op = 6 := by omega
      subst q6
      simp [numsB] at hnum
      obtain ⟨hlen, hp, hmo⟩ := hnum
      obtain ⟨x, hx, rx⟩ := fiscal_rep h hdate (rd ns 0) (rd ns 1) (by omega)
      exact ⟨_, x, Ev.step (f := fun k => cal_fiscal.f k (rd ns 0) (rd ns 1) f g) (fun k => by rw [month.f.eq_2]; dsimp only; rw [if_neg (by decide), if_neg (by decide), if_neg (by decide), if_neg (by decide), if_neg (by decide), if_pos rfl, if_pos (by omega)]) hx, rx⟩
/-! ### In -/
/-- Calendars and a node that can be asked. -/
structure Fine (l : List CC) (n : CN) : Prop where
  len : l.length ≤ 24
  all : ∀ c ∈ l, rightN 16 c.f1 = true
  right : rightN 16 n = true
  walk : (walkOf l n).1 = 0
theorem openOf_cons (l : List CC) (day : Int) (n : CN) (ns : List CN) : openOf l day (n :: ns) = 0 ↔ Fine l n ∧ rightB day = true ∧ openOf l day ns = 0 := by
  show (if 24 < l.length then (3 : Int) else if (l.all (fun c => rightN 16 c.f1) && rightN 16 n) = false then 1 else if rightB day = false then 6 else if (walkOf l n).1 = 0 then openOf l day ns else (walkOf l n).1) = 0 ↔ _
  constructor
  · intro h
    split at h
    · cases h
    split at h
    · cases h
    split at h
    · cases h
    split at h
    · rename_i h1 h2 h3 h4
      simp only [Bool.not_eq_false, Bool.and_eq_true, List.all_eq_true] at h2 h3
      exact ⟨⟨by omega, h2.1, h2.2, h4⟩, h3, h⟩
    · rename_i h4
      exact absurd h h4
  · rintro ⟨⟨h1, h2, h3, h4⟩, h5, h6⟩
    rw [if_neg (by omega), if_neg, if_neg (by rw [h5]; decide), if_pos h4, h6]
    rw [h3, List.all_eq_true.mpr h2]
    decide
theorem Fine.tot {l : List CC} {n : CN} (h : Fine l n) (hls : ∀ c ∈ l, Small c.f1) (hn : Small n) {f g : Int} (hs : Span f g) : ∃ B, MonthIs l n f g B := by
  have hl : l.length ≤ 1000000000000000000 := by have := h.len; omega
  obtain ⟨k, hk⟩ := (walkOf_ev l hl hls n hn).rounds
  have e : walkOf l n = (0, (walkOf l n).2) := by rw [← h.walk]
  rw [e] at hk
  exact month_tot l hl hls h.all hs k 0 n 0 false _ hk hn ⟨16, h.right⟩
theorem rightB_iff (d : Int) : rightB d = true ↔ 1 ≤ d ∧ d ≤ 3652059 := by simp [rightB]
theorem Fine.ends {l : List CC} {n : CN} (h : Fine l n) (hls : ∀ c ∈ l, Small c.f1) (hn : Small n) (d : Int) (hd : rightB d = true) : ∃ b, Ev (fun k => in.f k l n d) b := by
  obtain ⟨d1, d2⟩ := (rightB_iff d).mp hd
  obtain ⟨f, g, hs, hsp, h1, h2⟩ := span_at d d1 d2
  obtain ⟨B, hB⟩ := h.tot hls hn hsp
  exact ⟨_, in_at l n d hs hsp h1 h2 B hB⟩
open Classical in
noncomputable def inOf (l : List CC) (n : CN) (d : Int) : Bool := if h : ∃ b, Ev (fun k => in.f k l n d) b then Classical.choose h else false
theorem Fine.ev {l : List CC} {n : CN} (h : Fine l n) (hls : ∀ c ∈ l, Small c.f1) (hn : Small n) (d : Int) (hd : rightB d = true) : Ev (fun k => in.f k l n d) (inOf l n d) := by
  have hx := h.ends hls hn d hd
  unfold inOf
  rw [dif_pos hx]
  exact Classical.choose_spec hx
noncomputable def InOf (l : List CC) (n : CN) (day : Int) : Bool × Int := if openOf l day [n] = 0 then (inOf l n day, 0) else (false, openOf l day [n])
theorem In_ev (l : List CC) (hl : l.length ≤ 1000000000000000000) (hls : ∀ c ∈ l, Small c.f1) (n : CN) (hn : Small n) (day : Int) : Ev (fun k => cal_In.f k l n.f0 n.f1 n.f2 n.f3 day) (InOf l n day) := by
  obtain ⟨a0, l1, l2, a3⟩ := n
  unfold cal_In.f InOf
  dsimp only
  refine Ev.bind (open_at l hl hls day [⟨a0, l1, l2, a3⟩] (by simpa using hn) (by simp)) ?_
  by_cases z : openOf l day [⟨a0, l1, l2, a3⟩] = 0
  · simp only [if_pos z]
    obtain ⟨hf, hd, _⟩ := (openOf_cons l day _ []).mp z
    exact Ev.bind (hf.ev hls hn day hd) (Ev.now _)
  · simp only [if_neg z]
    exact Ev.now _
end Go.Proofs.YtpcjbnaggeiaoaaDoor.QCalMoved
