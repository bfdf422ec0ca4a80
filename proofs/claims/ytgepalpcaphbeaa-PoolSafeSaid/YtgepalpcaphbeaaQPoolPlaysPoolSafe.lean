/- No more is held than there is, and who holds a lock exclusive holds it alone. No conditions beyond those that each theorem names. -/
import Derived.Test.YtgepalpcaphbeaaQPoolPlaysPoolLaw
namespace Go.Proofs.Ytgepalpcaphbeaa.QPoolPlays
open Go.RowKit Go.Proofs.Ytgepalpcaphbeaa.PPoolPlays Go.Proofs.YtgepalpcaphbeaaW.PrintWords Go.Proofs.YtgepalpcaphbeaaW.PrintLast Go.Proofs.YtgepalpcaphbeaaW.PrintMore Go.Proofs.Ytgepalpcaphbeaa.MMaps
set_option linter.unusedVariables false
set_option linter.unusedSimpArgs false
set_option maxRecDepth 100000
structure Safe (R : List Rs) (H : List Hd) : Prop where
  ok : ∀ h ∈ H, ∃ r, findR R h.f1 = some r ∧ ((r.f2 = false ∧ h.f3 = 0 ∧ 1 ≤ h.f2) ∨ (r.f2 = true ∧ (h.f3 = 1 ∨ h.f3 = 2) ∧ h.f2 = 0))
  free : ∀ s, (unitsOf R s).2 = 0 → 0 ≤ (unitsOf R s).1 - sumBy (ofName s) H
  alone : ∀ h ∈ H, ∀ k ∈ H, h.f3 = 2 → h.f1 = k.f1 → h = k
theorem Safe.nil {R : List Rs} {H : List Hd} (hg : Good R H) : Safe R [] :=
  ⟨fun h hh => (by cases hh), fun s hs => by
    unfold sumBy
    unfold unitsOf at *
    cases hf : findR R s with
    | none => rw [hf] at hs; cases hs
    | some r =>
      have := hg.rwf r (findR_some hf).1
      rw [hf] at hs
      dsimp only at hs ⊢
      cases hb : r.f2 with
      | true => rw [hb] at hs; cases hs
      | false => simp; omega, fun h hh => by cases hh⟩
theorem Safe.nonneg {R : List Rs} {H : List Hd} (h : Safe R H) (s : ByteArray) : ∀ x ∈ H, 0 ≤ ofName s x := fun x hx => by
  obtain ⟨r, _, q⟩ := h.ok x hx
  unfold ofName
  split
  · rcases q with q | q <;> omega
  · omega
theorem sumBy_filter {g : Hd → Int} (p : Hd → Bool) : ∀ {H : List Hd}, (∀ x ∈ H, 0 ≤ g x) → sumBy g (H.filter p) ≤ sumBy g H
  | [], _ => Int.le_refl _
  | y :: r, h => by
    have h1 := sumBy_filter p (g := g) (H := r) (fun x hx => h x (.tail _ hx))
    have h2 := h y (.head _)
    rw [List.filter_cons]
    split
    · show g y + sumBy g (r.filter p) ≤ g y + sumBy g r
      omega
    · show sumBy g (r.filter p) ≤ g y + sumBy g r
      omega
theorem sumBy_put (g : Hd → Int) (h : Hd) : ∀ H, sumBy g (putH h H) = g h + sumBy g H
  | [] => rfl
  | y :: r => by
    unfold putH
    split
    · rfl
    · have := sumBy_put g h r
      unfold sumBy
      omega
theorem Safe.give {R : List Rs} {H : List Hd} (h : Safe R H) (o : Int) : Safe R (giveOf H o) :=
  ⟨fun x hx => h.ok x (List.mem_filter.mp hx).1, fun s hs => by
    have := sumBy_filter (fun h => !decide (h.f0 = o)) (h.nonneg s)
    have := h.free s hs
    unfold giveOf
    omega, fun x hx k hk => h.alone x (List.mem_filter.mp hx).1 k (List.mem_filter.mp hk).1⟩
theorem may_free {R : List Rs} {H : List Hd} {o : Int} {l : List Nd} (h : mayOf R H o l = 0) : ∀ n ∈ l, busyOf R H n = false := by
  have hc := may_can h
  unfold mayOf at h
  split at h
  · cases h
  · rw [if_pos hc.ok] at h
    cases ha : l.any (busyOf R H) with
    | true => rw [ha] at h; cases h
    | false => exact fun n hn => by have := (List.any_eq_false.mp ha) n hn; simpa using this
/-- Of a name that is not among what was taken, as much is held as was. -/
theorem sum_other {o : Int} {s : ByteArray} : ∀ {l : List Nd} {H : List Hd}, (∀ m ∈ l, m.f0 ≠ s) → sumBy (ofName s) (takes o l H) = sumBy (ofName s) H
  | [], H, _ => rfl
  | n :: r, H, h => by
    have : takes o (n :: r) H = takes o r (putH (heldAs o n) H) := rfl
    rw [this, sum_other (fun m hm => h m (.tail _ hm)), sumBy_put]
    have : ofName s (heldAs o n) = 0 := by
      unfold ofName heldAs
      rw [eqS_false.mpr (h n (.head _))]
      rfl
    omega
theorem Safe.take {R : List Rs} {H : List Hd} (h : Safe R H) {o : Int} {l : List Nd} (hm : mayOf R H o l = 0) : ∀ (i : Nat), i ≤ l.length → Safe R (takes o (l.take i) H)
  | 0, _ => h
  | i + 1, hi => by
    have ih := Safe.take h hm i (by omega)
    have hc := may_can hm
    have hr := right1_is (right1_at hc.ok i (by omega))
    have hb := may_free hm l[i] (List.getElem_mem _)
    rw [takes_take o l H i (by omega)]
    obtain ⟨n, hn⟩ : ∃ n, l[i] = n := ⟨_, rfl⟩
    rw [hn] at hr hb ⊢
    obtain ⟨⟨r, hf, hok⟩, hpre⟩ := hr
    have hnew : (r.f2 = false ∧ (heldAs o n).f3 = 0 ∧ 1 ≤ (heldAs o n).f2 ∧ n.f2 = 0) ∨ (r.f2 = true ∧ ((heldAs o n).f3 = 1 ∨ (heldAs o n).f3 = 2) ∧ (heldAs o n).f2 = 0 ∧ n.f2 ≠ 0) := by
      unfold okNeed at hok
      unfold heldAs
      cases hq : r.f2 with
      | true =>
        rw [hq] at hok
        simp at hok
        right
        dsimp only
        rw [if_neg (by omega)]
        exact ⟨rfl, hok, rfl, by omega⟩
      | false =>
        rw [hq] at hok
        simp at hok
        left
        dsimp only
        rw [if_pos hok.1]
        exact ⟨rfl, hok.1, hok.2.1, hok.1⟩
    have old : ∀ k ∈ takes o (l.take i) H, k.f1 = n.f0 → k ∈ H := fun k hk e => by
      rcases (takes_mem o k _ _).mp hk with q | ⟨m, hm1, q⟩
      · exact q
      · exact absurd (by rw [q] at e; exact e) (hpre m hm1)
    refine ⟨fun x hx => ?_, fun s hs => ?_, fun x hx k hk h2 he => ?_⟩
    · rcases (putH_mem _ x _).mp hx with e | e
      · subst e
        refine ⟨r, hf, ?_⟩
        rcases hnew with q | q
        · exact .inl ⟨q.1, q.2.1, q.2.2.1⟩
        · exact .inr ⟨q.1, q.2.1, q.2.2.1⟩
      · exact ih.ok x e
    · rw [sumBy_put]
      by_cases e : n.f0 = s
      · subst e
        rcases hnew with q | q
        · have ho : ofName n.f0 (heldAs o n) = n.f1 := by
            unfold ofName heldAs
            dsimp only
            rw [eqS_self, if_pos rfl, if_pos q.2.2.2]
          have hso := sum_other (o := o) (H := H) hpre
          unfold busyOf at hb
          rw [if_pos q.2.2.2] at hb
          unfold freeOf at hb
          rw [if_pos hs] at hb
          have := of_decide_eq_false hb
          dsimp only at this
          omega
        · have ho : ofName n.f0 (heldAs o n) = 0 := by
            unfold ofName
            rw [q.2.2.1]
            split <;> rfl
          have := ih.free n.f0 hs
          omega
      · have ho : ofName s (heldAs o n) = 0 := by
          unfold ofName heldAs
          rw [eqS_false.mpr e]; rfl
        have := ih.free s hs
        omega
    · have clashes : ∀ z ∈ H, n.f2 ≠ 0 → clash n z = false := fun z hz q => by
        unfold busyOf at hb
        rw [if_neg q] at hb
        have := (List.any_eq_false.mp hb) z hz
        simpa using this
      rcases (putH_mem _ x _).mp hx with e1 | e1 <;> rcases (putH_mem _ k _).mp hk with e2 | e2
      · rw [e1, e2]
      · exfalso
        subst e1
        have hk2 := old k e2 he.symm
        have h2' : n.f2 = 2 := h2
        have := clashes k hk2 (by omega)
        unfold clash at this
        rw [show eqS k.f1 n.f0 = true from eqS_iff.mpr he.symm, h2'] at this
        simp at this
      · exfalso
        subst e2
        have hx2 := old x e1 he
        rcases hnew with q | q
        · obtain ⟨r', hf', q'⟩ := h.ok x hx2
          have he' : x.f1 = n.f0 := he
          rw [he', hf] at hf'
          cases hf'
          rcases q' with q' | q'
          · omega
          · rw [q.1] at q'; exact absurd q'.1 (by simp)
        · have := clashes x hx2 q.2.2.2
          unfold clash at this
          rw [show eqS x.f1 n.f0 = true from eqS_iff.mpr he, h2] at this
          simp at this
      · exact ih.alone x e1 k e2 h2 he
theorem Safe.takeOf {R : List Rs} {H : List Hd} (h : Safe R H) (o : Int) (l : List Nd) : Safe R (takeOf R H o l) := by
  unfold QPoolPlays.takeOf
  split
  · rename_i hm
    have := h.take hm l.length (Nat.le_refl _)
    rwa [List.take_of_length_le (Nat.le_refl _)] at this
  · exact h
/-- What the law looks at. -/
theorem Safe.one {R : List Rs} {H : List Hd} (h : Safe R H) {x : Hp} (hx : x ∈ H.map toP) : (x.f3 = 0 ∧ (freeOf R H x.f1).2 = 0 ∧ 0 ≤ (freeOf R H x.f1).1 ∧ 1 ≤ x.f2) ∨ x.f3 ≠ 0 := by
  obtain ⟨y, hy, rfl⟩ := List.mem_map.mp hx
  obtain ⟨r, hf, q⟩ := h.ok y hy
  show (y.f3 = 0 ∧ (freeOf R H y.f1).2 = 0 ∧ 0 ≤ (freeOf R H y.f1).1 ∧ 1 ≤ y.f2) ∨ y.f3 ≠ 0
  rcases q with q | q
  · left
    have hu : (unitsOf R y.f1).2 = 0 := by unfold unitsOf; rw [hf]; dsimp only; rw [q.1]; rfl
    have := h.free y.f1 hu
    unfold freeOf
    rw [if_pos hu]
    exact ⟨q.2.1, rfl, this, q.2.2⟩
  · right; omega
theorem Safe.two {R : List Rs} {H : List Hd} (h : Safe R H) (hs : SortH H) (j k : Nat) (hj : j < (H.map toP).length) (hk : k < (H.map toP).length) (hne : j ≠ k) (h2 : (H.map toP)[k].f3 = 2) : ((H.map toP)[j].f1.toList == (H.map toP)[k].f1.toList) = false := by
  have hj' : j < H.length := by simpa using hj
  have hk' : k < H.length := by simpa using hk
  rw [List.getElem_map, List.getElem_map]
  rw [List.getElem_map] at h2
  cases hq : ((toP H[j]).f1.toList == (toP H[k]).f1.toList) with
  | false => rfl
  | true =>
    exfalso
    have e : H[k].f1 = H[j].f1 := (toList_inj (beq_iff_eq.mp hq)).symm
    have := h.alone H[k] (List.getElem_mem _) H[j] (List.getElem_mem _) h2 e
    have hp := hs.apart
    rcases Nat.lt_or_gt_of_ne hne with q | q
    · exact List.pairwise_iff_getElem.mp hp j k hj' hk' q (by rw [this])
    · exact List.pairwise_iff_getElem.mp hp k j hk' hj' q (by rw [this])
end Go.Proofs.Ytgepalpcaphbeaa.QPoolPlays
