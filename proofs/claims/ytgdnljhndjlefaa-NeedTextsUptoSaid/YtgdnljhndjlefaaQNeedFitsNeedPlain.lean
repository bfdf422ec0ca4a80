/- No more is held than there is, and who holds a lock exclusive holds it alone. No conditions beyond those that each theorem names. -/
import Derived.Test.YtgdnljhndjlefaaQNeedFitsPoolLaw
import Derived.Test.YtgdnljhndjlefaaQNeedFitsNeedAsk
namespace Go.Proofs.Ytgdnljhndjlefaa.QNeedFits
open Go.RowKit Go.Proofs.Ytgdnljhndjlefaa.PNeedFits Go.Proofs.YtgdnljhndjlefaaW.PrintWords Go.Proofs.YtgdnljhndjlefaaW.PrintLast Go.Proofs.YtgdnljhndjlefaaW.PrintMore Go.Proofs.Ytgdnljhndjlefaa.MMaps
set_option linter.unusedVariables false
set_option linter.unusedSimpArgs false
set_option maxRecDepth 100000
structure Safe (R : List Rs) (H : List Hd) : Prop where
  ok : ∀ h ∈ H, ∃ r, findR R h.f1 = some r ∧ ((r.f2 = false ∧ h.f3 = 0 ∧ 1 ≤ h.f2) ∨ (r.f2 = true ∧ (h.f3 = 1 ∨ h.f3 = 2) ∧ h.f2 = 0))
  free : ∀ s, (unitsOf R s).2 = 0 → 0 ≤ (unitsOf R s).1 - sumBy (ofName s) H
  alone : ∀ h ∈ H, ∀ k ∈ H, h.f3 = 2 → h.f1 = k.f1 → h = k
theorem Safe.nil {R : List Rs} {H : List Hd} (hg : Good R H) : Safe R [] :=
  ⟨fun h hh => (by cases hh), fun s hs => by
    unfold sumBy
    unfold unitsOf at *
    cases hf : findR R s with
    | none => rw [hf] at hs; cases hs
    | some r =>
      have := hg.rwf r (findR_some hf).1
      rw [hf] at hs
      dsimp only at hs ⊢
      cases hb : r.f2 with
      | true => rw [hb] at hs; cases hs
      | false => simp; omega, fun h hh => by cases hh⟩
theorem Safe.nonneg {R : List Rs} {H : List Hd} (h : Safe R H) (s : ByteArray) : ∀ x ∈ H, 0 ≤ ofName s x := fun x hx => by
  obtain ⟨r, _, q⟩ := h.ok x hx
  unfold ofName
  split
  · rcases q with q | q <;> omega
  · omega
theorem sumBy_filter {g : Hd → Int} (p : Hd → Bool) : ∀ {H : List Hd}, (∀ x ∈ H, 0 ≤ g x) → sumBy g (H.filter p) ≤ sumBy g H
  | [], _ => Int.le_refl _
  | y :: r, h => by
    have h1 := sumBy_filter p (g := g) (H := r) (fun x hx => h x (.tail _ hx))
    have h2 := h y (.head _)
    rw [List.filter_cons]
    split
    · show g y + sumBy g (r.filter p) ≤ g y + sumBy g r
      omega
    · show sumBy g (r.filter p) ≤ g y + sumBy g r
      omega
theorem sumBy_put (g : Hd → Int) (h : Hd) : ∀ H, sumBy g (putH h H) = g h + sumBy g H
  | [] => rfl
  | y :: r => by
    unfold putH
    split
    · rfl
    · have := sumBy_put g h r
      unfold sumBy
      omega
theorem Safe.give {R : List Rs} {H : List Hd} (h : Safe R H) (o : Int) : Safe R (giveOf H o) :=
  ⟨fun x hx => h.ok x (List.mem_filter.mp hx).1, fun s hs => by
    have := sumBy_filter (fun h => !decide (h.f0 = o)) (h.nonneg s)
    have := h.free s hs
    unfold giveOf
    omega, fun x hx k hk => h.alone x (List.mem_filter.mp hx).1 k (List.mem_filter.mp hk).1⟩
theorem may_free {R : List Rs} {H : List Hd} {o : Int} {l : List Nd} (h : mayOf R H o l = 0) : ∀ n ∈ l, busyOf R H n = false := by
  have hc := may_can h
  unfold mayOf at h
  split at h
  · cases h
  · rw [if_pos hc.ok] at h
    cases ha : l.any (busyOf R H) with
    | true => rw [ha] at h; cases h
    | false => exact fun n hn => by have := (List.any_eq_false.mp ha) n hn; simpa using this
/-- Of a name that is not among what was taken, as much is held as was. -/
theorem sum_other {o : Int} {s : ByteArray} : ∀ {l : List Nd} {H : List Hd}, (∀ m ∈ l, m.f0 ≠ s) → sumBy (ofName s) (takes o l H) = sumBy (ofName s) H
  | [], H, _ => rfl
  | n :: r, H, h => by
    have : takes o (n :: r) H = takes o r (putH (heldAs o n) H) := rfl
    rw [this, sum_other (fun m hm => h m (.tail _ hm)), sumBy_put]
    have : ofName s (heldAs o n) = 0 := by
      unfold ofName heldAs
      rw [eqS_false.mpr (h n (.head _))]
      rfl
    omega
theorem Safe.take {R : List Rs} {H : List Hd} (h : Safe R H) {o : Int} {l : List Nd} (hm : mayOf R H o l = 0) : ∀ (i : Nat), i ≤ l.length → Safe R (takes o (l.take i) H)
  | 0, _ => h
  | i + 1, hi => by
    have ih := Safe.take h hm i (by omega)
    have hc := may_can hm
    have hr := right1_is (right1_at hc.ok i (by omega))
    have hb := may_free hm l[i] (List.getElem_mem _)
    rw [takes_take o l H i (by omega)]
    obtain ⟨n, hn⟩ : ∃ n, l[i] = n := ⟨_, rfl⟩
    rw [hn] at hr hb ⊢
    obtain ⟨⟨r, hf, hok⟩, hpre⟩ := hr
    have hnew : (r.f2 = false ∧ (heldAs o n).f3 = 0 ∧ 1 ≤ (heldAs o n).f2 ∧ n.f2 = 0) ∨ (r.f2 = true ∧ ((heldAs o n).f3 = 1 ∨ (heldAs o n).f3 = 2) ∧ (heldAs o n).f2 = 0 ∧ n.f2 ≠ 0) := by
      unfold okNeed at hok
      unfold heldAs
      cases hq : r.f2 with
      | true =>
        rw [hq] at hok
        simp at hok
        right
        dsimp only
        rw [if_neg (by omega)]
        exact ⟨rfl, hok, rfl, by omega⟩
      | false =>
        rw [hq] at hok
        simp at hok
        left
        dsimp only
        rw [if_pos hok.1]
        exact ⟨rfl, hok.1, hok.2.1, hok.1⟩
    have old : ∀ k ∈ takes o (l.take i) H, k.f1 = n.f0 → k ∈ H := fun k hk e => by
      rcases (takes_mem o k _ _).mp hk with q | ⟨m, hm1, q⟩
      · exact q
      · exact absurd (by rw [q] at e; exact e) (hpre m hm1)
    refine ⟨fun x hx => ?_, fun s hs => ?_, fun x hx k hk h2 he => ?_⟩
    · rcases (putH_mem _ x _).mp hx with e | e
      · subst e
        refine ⟨r, hf, ?_⟩
        rcases hnew with q | q
        · exact .inl ⟨q.1, q.2.1, q.2.2.1⟩
        · exact .inr ⟨q.1, q.2.1, q.2.2.1⟩
      · exact ih.ok x e
    · rw [sumBy_put]
      by_cases e : n.f0 = s
      · subst e
        rcases hnew with q | q
        · have ho : ofName n.f0 (heldAs o n) = n.f1 := by
            unfold ofName heldAs
            dsimp only
            rw [eqS_self, if_pos rfl, if_pos q.2.2.2]
          have hso := sum_other (o := o) (H := H) hpre
          unfold busyOf at hb
          rw [if_pos q.2.2.2] at hb
          unfold freeOf at hb
          rw [if_pos hs] at hb
          have := of_decide_eq_false hb
          dsimp only at this
          omega
        · have ho : ofName n.f0 (heldAs o n) = 0 := by
            unfold ofName
            rw [q.2.2.1]
            split <;> rfl
          have := ih.free n.f0 hs
          omega
      · have ho : ofName s (heldAs o n) = 0 := by
          unfold ofName heldAs
          rw [eqS_false.mpr e]; rfl
        have := ih.free s hs
        omega
    · have clashes : ∀ z ∈ H, n.f2 ≠ 0 → clash n z = false := fun z hz q => by
        unfold busyOf at hb
        rw [if_neg q] at hb
        have := (List.any_eq_false.mp hb) z hz
        simpa using this
      rcases (putH_mem _ x _).mp hx with e1 | e1 <;> rcases (putH_mem _ k _).mp hk with e2 | e2
      · rw [e1, e2]
      · exfalso
        subst e1
        have hk2 := old k e2 he.symm
        have h2' : n.f2 = 2 := h2
        have := clashes k hk2 (by omega)
        unfold clash at this
        rw [show eqS k.f1 n.f0 = true from eqS_iff.mpr he.symm, h2'] at this
        simp at this
      · exfalso
        subst e2
        have hx2 := old x e1 he
        rcases hnew with q | q
        · obtain ⟨r', hf', q'⟩ := h.ok x hx2
          have he' : x.f1 = n.f0 := he
          rw [he', hf] at hf'
          cases hf'
          rcases q' with q' | q'
          · omega
          · rw [q.1] at q'; exact absurd q'.1 (by simp)
        · have := clashes x hx2 q.2.2.2
          unfold clash at this
          rw [show eqS x.f1 n.f0 = true from eqS_iff.mpr he, h2] at this
          simp at this
      · exact ih.alone x e1 k e2 h2 he
theorem Safe.takeOf {R : List Rs} {H : List Hd} (h : Safe R H) (o : Int) (l : List Nd) : Safe R (takeOf R H o l) := by
  unfold QNeedFits.takeOf
  split
  · rename_i hm
    have := h.take hm l.length (Nat.le_refl _)
    rwa [List.take_of_length_le (Nat.le_refl _)] at this
  · exact h
/-- What the law looks at. -/
theorem Safe.one {R : List Rs} {H : List Hd} (h : Safe R H) {x : Hp} (hx : x ∈ H.map toP) : (x.f3 = 0 ∧ (freeOf R H x.f1).2 = 0 ∧ 0 ≤ (freeOf R H x.f1).1 ∧ 1 ≤ x.f2) ∨ x.f3 ≠ 0 := by
  obtain ⟨y, hy, rfl⟩ := List.mem_map.mp hx
  obtain ⟨r, hf, q⟩ := h.ok y hy
  show (y.f3 = 0 ∧ (freeOf R H y.f1).2 = 0 ∧ 0 ≤ (freeOf R H y.f1).1 ∧ 1 ≤ y.f2) ∨ y.f3 ≠ 0
  rcases q with q | q
  · left
    have hu : (unitsOf R y.f1).2 = 0 := by unfold unitsOf; rw [hf]; dsimp only; rw [q.1]; rfl
    have := h.free y.f1 hu
    unfold freeOf
    rw [if_pos hu]
    exact ⟨q.2.1, rfl, this, q.2.2⟩
  · right; omega
theorem Safe.two {R : List Rs} {H : List Hd} (h : Safe R H) (hs : SortH H) (j k : Nat) (hj : j < (H.map toP).length) (hk : k < (H.map toP).length) (hne : j ≠ k) (h2 : (H.map toP)[k].f3 = 2) : ((H.map toP)[j].f1.toList == (H.map toP)[k].f1.toList) = false := by
  have hj' : j < H.length := by simpa using hj
  have hk' : k < H.length := by simpa using hk
  rw [List.getElem_map, List.getElem_map]
  rw [List.getElem_map] at h2
  cases hq : ((toP H[j]).f1.toList == (toP H[k]).f1.toList) with
  | false => rfl
  | true =>
    exfalso
    have e : H[k].f1 = H[j].f1 := (toList_inj (beq_iff_eq.mp hq)).symm
    have := h.alone H[k] (List.getElem_mem _) H[j] (List.getElem_mem _) h2 e
    have hp := hs.apart
    rcases Nat.lt_or_gt_of_ne hne with q | q
    · exact List.pairwise_iff_getElem.mp hp j k hj' hk' q (by rw [this])
    · exact List.pairwise_iff_getElem.mp hp k j hk' hj' q (by rw [this])
end Go.Proofs.Ytgdnljhndjlefaa.QNeedFits

/- Needs of two owners go together, or don't, whichever comes first. No conditions beyond those that each theorem names. -/
namespace Go.Proofs.Ytgdnljhndjlefaa.QNeedFits
open Go.RowKit Go.Proofs.Ytgdnljhndjlefaa.PNeedFits Go.Proofs.YtgdnljhndjlefaaW.PrintWords Go.Proofs.YtgdnljhndjlefaaW.PrintLast Go.Proofs.YtgdnljhndjlefaaW.PrintMore Go.Proofs.Ytgdnljhndjlefaa.MMaps
set_option linter.unusedVariables false
set_option linter.unusedSimpArgs false
set_option maxRecDepth 100000
theorem may_zero {R : List Rs} {H : List Hd} {o : Int} {l : List Nd} (ho : H.any (fun h => decide (h.f0 = o)) = false) : mayOf R H o l = 0 ↔ rights R [] l = 0 ∧ l.any (busyOf R H) = false := by
  unfold mayOf
  rw [ho]
  simp only [Bool.false_eq_true, if_false]
  by_cases hr : rights R [] l = 0
  · rw [if_pos hr]
    cases l.any (busyOf R H) <;> simp [hr]
  · rw [if_neg hr]
    simp [hr]
theorem names_apart {R : List Rs} {l : List Nd} (h : rights R [] l = 0) : l.Pairwise fun a b => a.f0 ≠ b.f0 :=
  List.pairwise_iff_getElem.mpr fun i j hi hj hij => (right1_is (right1_at h j hj)).2 l[i] (List.mem_iff_getElem?.mpr ⟨i, by rw [List.getElem?_take, if_pos hij, List.getElem?_eq_getElem hi]⟩)
def unitN (n : Nd) : Int := if n.f2 = 0 then n.f1 else 0
def sumN (s : ByteArray) : List Nd → Int
  | [] => 0
  | n :: r => (if eqS n.f0 s then unitN n else 0) + sumN s r
theorem sum_takes (o : Int) (s : ByteArray) : ∀ (l : List Nd) (H : List Hd), sumBy (ofName s) (takes o l H) = sumN s l + sumBy (ofName s) H
  | [], H => by show sumBy (ofName s) H = 0 + _; omega
  | n :: r, H => by
    have : takes o (n :: r) H = takes o r (putH (heldAs o n) H) := rfl
    rw [this, sum_takes o s r, sumBy_put]
    have e : ofName s (heldAs o n) = if eqS n.f0 s then unitN n else 0 := rfl
    rw [e]
    have e3 : sumN s (n :: r) = (if eqS n.f0 s then unitN n else 0) + sumN s r := rfl
    rw [e3]
    omega
theorem sumN_none {s : ByteArray} : ∀ {l : List Nd}, (∀ m ∈ l, m.f0 ≠ s) → sumN s l = 0
  | [], _ => rfl
  | n :: r, h => by
    unfold sumN
    rw [if_neg (by rw [eqS_false.mpr (h n (.head _))]; simp), sumN_none (fun m hm => h m (.tail _ hm))]
    rfl
theorem sumN_one {m : Nd} : ∀ {l : List Nd}, (l.Pairwise fun a b => a.f0 ≠ b.f0) → m ∈ l → sumN m.f0 l = unitN m
  | [], _, h => by cases h
  | n :: r, ha, h => by
    obtain ⟨h1, h2⟩ := List.pairwise_cons.mp ha
    unfold sumN
    rcases List.mem_cons.mp h with e | e
    · subst e
      rw [if_pos (eqS_self _), sumN_none (fun x hx => (h1 x hx).symm)]
      omega
    · rw [if_neg (by rw [eqS_false.mpr (h1 m e)]; simp), sumN_one h2 e]
      omega
/-- Two needs of one name can't be met at once. -/
def clash2 (u : Int) (m n : Nd) : Prop := (n.f2 = 0 ∧ u < m.f1 + n.f1) ∨ (n.f2 ≠ 0 ∧ (m.f2 = 2 ∨ n.f2 = 2))
theorem ok_zero {r : Rs} {n : Nd} (h : okNeed r n = true) : (n.f2 = 0 ↔ r.f2 = false) ∧ (n.f2 = 0 → 1 ≤ n.f1) := by
  unfold okNeed at h
  cases hb : r.f2 with
  | true =>
    rw [hb] at h
    simp at h
    constructor
    · constructor
      · intro e; omega
      · intro e; cases e
    · intro e; omega
  | false =>
    rw [hb] at h
    simp at h
    exact ⟨⟨fun _ => rfl, fun _ => h.1⟩, fun _ => h.2.1⟩
theorem busy_takes {R : List Rs} {a : List Nd} (ha : rights R [] a = 0) {n : Nd} {r : Rs} (hf : findR R n.f0 = some r) (ho : okNeed r n = true) : busyOf R (takes 1 a []) n = true ↔ busyOf R [] n = true ∨ ∃ m ∈ a, m.f0 = n.f0 ∧ clash2 (unitsOf R n.f0).1 m n := by
  have hz := ok_zero ho
  by_cases h0 : n.f2 = 0
  · have hr := hz.1.mp h0
    have hu : unitsOf R n.f0 = (r.f1, 0) := by unfold unitsOf; rw [hf]; dsimp only; rw [hr]; rfl
    have hfree : ∀ H, (freeOf R H n.f0).1 = r.f1 - sumBy (ofName n.f0) H := fun H => by unfold freeOf; rw [hu]; rfl
    have hu1 : (unitsOf R n.f0).1 = r.f1 := by rw [hu]
    have hnil : sumBy (ofName n.f0) [] = 0 := rfl
    rw [busy_ref h0, busy_ref h0, hfree, hfree, sum_takes, hnil, hu1, decide_eq_true_eq, decide_eq_true_eq]
    by_cases hm : ∃ m ∈ a, m.f0 = n.f0
    · obtain ⟨m, hma, hmn⟩ := hm
      have hs := sumN_one (names_apart ha) hma
      obtain ⟨rm, hfm, hom⟩ := rights_ok ha m hma
      rw [hmn, hf] at hfm
      cases hfm
      have hm0 := (ok_zero hom).1.mpr hr
      have hm1 := (ok_zero hom).2 hm0
      rw [hmn] at hs
      rw [hs]
      unfold unitN
      rw [if_pos hm0]
      constructor
      · intro h
        exact .inr ⟨m, hma, hmn, .inl ⟨h0, by omega⟩⟩
      · rintro (h | ⟨m', hma', hmn', hc⟩)
        · omega
        · have hs' := sumN_one (names_apart ha) hma'
          rw [hmn', hs] at hs'
          obtain ⟨rm', hfm', hom'⟩ := rights_ok ha m' hma'
          rw [hmn', hf] at hfm'
          cases hfm'
          have hm0' := (ok_zero hom').1.mpr hr
          unfold unitN at hs'
          rw [if_pos hm0, if_pos hm0'] at hs'
          rcases hc with ⟨_, hc⟩ | ⟨hc, _⟩
          · omega
          · exact absurd h0 hc
    · rw [sumN_none (fun m hm' e => hm ⟨m, hm', e⟩)]
      constructor
      · intro h; left; omega
      · rintro (h | ⟨m, hma, hmn, _⟩)
        · omega
        · exact absurd ⟨m, hma, hmn⟩ hm
  · rw [busy_ref2 h0, busy_ref2 h0]
    simp only [List.any_nil, Bool.false_eq_true, false_or]
    rw [List.any_eq_true]
    constructor
    · rintro ⟨x, hx, hc⟩
      rcases (takes_mem 1 x a []).mp hx with e | ⟨m, hma, rfl⟩
      · cases e
      · unfold clash at hc
        rw [Bool.and_eq_true, eqS_iff, Bool.or_eq_true, decide_eq_true_eq, decide_eq_true_eq] at hc
        exact ⟨m, hma, hc.1, .inr ⟨h0, hc.2⟩⟩
    · rintro ⟨m, hma, hmn, hc⟩
      refine ⟨heldAs 1 m, (takes_mem 1 _ a []).mpr (.inr ⟨m, hma, rfl⟩), ?_⟩
      unfold clash
      rw [Bool.and_eq_true, eqS_iff, Bool.or_eq_true, decide_eq_true_eq, decide_eq_true_eq]
      rcases hc with ⟨hc, _⟩ | ⟨_, hc⟩
      · exact absurd hc h0
      · exact ⟨hmn, hc⟩
theorem takes_owner (a : List Nd) : (takes 1 a []).any (fun h => decide (h.f0 = 2)) = false := by
  rw [List.any_eq_false]
  intro x hx
  rcases (takes_mem 1 x a []).mp hx with e | ⟨m, _, rfl⟩
  · cases e
  · show ¬ decide ((1 : Int) = 2) = true
    simp
/-- What it is that needs of two owners go together. -/
structure Goes (R : List Rs) (a b : List Nd) : Prop where
  ra : rights R [] a = 0
  rb : rights R [] b = 0
  fa : a.any (busyOf R []) = false
  fb : b.any (busyOf R []) = false
  no : ∀ m ∈ a, ∀ n ∈ b, m.f0 = n.f0 → ¬ clash2 (unitsOf R n.f0).1 m n
theorem both_iff {R : List Rs} {a b : List Nd} : bothOf R a b = true ↔ Goes R a b := by
  unfold bothOf fitsOf
  rw [Bool.and_eq_true, decide_eq_true_eq, decide_eq_true_eq, may_zero (takes_owner a), may_zero (show ([] : List Hd).any (fun h => decide (h.f0 = 1)) = false from rfl)]
  constructor
  · rintro ⟨⟨h1, h2⟩, h3, h4⟩
    refine ⟨h1, h3, h2, ?_, ?_⟩
    · rw [List.any_eq_false] at h4 ⊢
      intro n hn hb
      obtain ⟨r, hf, ho⟩ := rights_ok h3 n hn
      exact h4 n hn ((busy_takes h1 hf ho).mpr (.inl hb))
    · intro m hm n hn e hc
      rw [List.any_eq_false] at h4
      obtain ⟨r, hf, ho⟩ := rights_ok h3 n hn
      exact h4 n hn ((busy_takes h1 hf ho).mpr (.inr ⟨m, hm, e, hc⟩))
  · rintro ⟨h1, h2, h3, h4, h5⟩
    refine ⟨⟨h1, h3⟩, h2, ?_⟩
    rw [List.any_eq_false] at h4 ⊢
    intro n hn hb
    obtain ⟨r, hf, ho⟩ := rights_ok h2 n hn
    rcases (busy_takes h1 hf ho).mp hb with e | ⟨m, hm, e, hc⟩
    · exact h4 n hn e
    · exact h5 m hm n hn e hc
theorem Goes.comm {R : List Rs} {a b : List Nd} (h : Goes R a b) : Goes R b a :=
  ⟨h.rb, h.ra, h.fb, h.fa, fun m hm n hn e hc => by
    obtain ⟨r, hf, ho⟩ := rights_ok h.rb m hm
    obtain ⟨r', hf', ho'⟩ := rights_ok h.ra n hn
    rw [← e, hf] at hf'
    cases hf'
    refine h.no n hn m hm e.symm ?_
    have z1 := (ok_zero ho).1
    have z2 := (ok_zero ho').1
    rcases hc with ⟨h0, h1⟩ | ⟨h0, h1⟩
    · exact .inl ⟨z1.mpr (z2.mp h0), by rw [e]; omega⟩
    · exact .inr ⟨fun q => h0 (z2.mpr (z1.mp q)), h1.symm⟩⟩
theorem both_comm (R : List Rs) (a b : List Nd) : bothOf R a b = bothOf R b a := by
  cases h : bothOf R a b with
  | true => exact (both_iff.mpr (both_iff.mp h).comm).symm
  | false =>
    cases h2 : bothOf R b a with
    | false => rfl
    | true => rw [both_iff.mpr (both_iff.mp h2).comm] at h; cases h
theorem both_fits {R : List Rs} {a b : List Nd} (h : bothOf R a b = true) : fitsOf R a = 0 ∧ fitsOf R b = 0 := by
  have g := both_iff.mp h
  exact ⟨(may_zero (show ([] : List Hd).any (fun h => decide (h.f0 = 1)) = false from rfl)).mpr ⟨g.ra, g.fa⟩, (may_zero (show ([] : List Hd).any (fun h => decide (h.f0 = 1)) = false from rfl)).mpr ⟨g.rb, g.fb⟩⟩
end Go.Proofs.Ytgdnljhndjlefaa.QNeedFits
