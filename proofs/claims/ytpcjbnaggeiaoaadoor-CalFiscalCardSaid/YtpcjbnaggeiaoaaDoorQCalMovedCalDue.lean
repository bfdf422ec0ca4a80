/- Due ends, for all calendars and nodes; and what the law asks of it. No conditions beyond those that each theorem names. -/
import Derived.Test.YtpcjbnaggeiaoaaDoorQCalMovedCalGiven
namespace Go.Proofs.YtpcjbnaggeiaoaaDoor.QCalMoved
open Go.RowKit Go.Proofs.YtpcjbnaggeiaoaaDoor.PCalMoved Go.Proofs.YtpcjbnaggeiaoaaDoorW.PrintWords Go.Proofs.YtpcjbnaggeiaoaaDoorW.PrintLast Go.Proofs.YtpcjbnaggeiaoaaDoorW.PrintMore Go.Proofs.YtpcjbnaggeiaoaaDoor.MDate Go.Proofs.YtpcjbnaggeiaoaaDoor.MBits
set_option linter.unusedVariables false
set_option linter.unusedSimpArgs false
theorem due_l0 {l : List CC} {n m : CN} (hls : ∀ c ∈ l, Small c.f1) (hn : Small n) (hm : Small m) (fn : Fine l n) (fm : Fine l m) (dir day : Int) (hd : 1 ≤ day ∧ day ≤ 3652059) (hdir : dir = -1 ∨ dir = 0 ∨ dir = 1) : ∀ (t : Nat) (s : Nat), s + t = 11 → ∃ r, Ev (fun k => Due.l0 k l n m dir day (day - dir * (s : Int))) (r, 0) := by
  have hmx : ∀ s : Nat, s ≤ 11 → ∃ x : Int, mx (wrap64 (day - dir * (s : Int) - day)) (wrap64 (day - (day - dir * (s : Int)))) = x ∧ (x ≤ 10 ↔ (s : Int) ≤ 10 ∨ dir = 0) := by
    intro s hs
    refine ⟨_, rfl, ?_⟩
    rcases hdir with rfl | rfl | rfl
    all_goals
      rw [wrap64_id (by omega) (by omega), wrap64_id (by omega) (by omega)]
      unfold mx
      split <;> omega
  intro t
  induction t with
  | zero =>
    intro s hs
    obtain ⟨x, hx, hx2⟩ := hmx s (by omega)
    cases hr : rightB (day - dir * (s : Int)) with
    | false => exact ⟨false, Ev.step (fun k => by rw [Due.l0.eq_2, Right_eq, hr, Option.bind_some, if_neg (by decide)]) (Ev.now _)⟩
    | true =>
      by_cases z : dir = 0
      · subst z
        have ex : x ≤ 10 := hx2.mpr (.inr rfl)
        have ed : day - 0 * (s : Int) = day := by omega
        rw [ed] at hr hx ⊢
        have hi := fn.ev hls hn day hr
        have un : ∀ k, Due.l0 (k + 1) l n m 0 day day = (in.f k l n day).bind fun c => if c = true then some (true, 0) else some (false, 0) := fun k => by
          rw [Due.l0.eq_2, Right_eq, hr, Option.bind_some, if_pos rfl, if_pos (by rw [hx]; exact ex), if_pos rfl]
          simp
        cases hb : inOf l n day with
        | true => exact ⟨true, Ev.step un (Ev.bind hi (by rw [hb]; exact Ev.now _))⟩
        | false => exact ⟨false, Ev.step un (Ev.bind hi (by rw [hb]; exact Ev.now _))⟩
      · exact ⟨false, Ev.step (fun k => by rw [Due.l0.eq_2, Right_eq, hr, Option.bind_some, if_pos rfl, if_neg (by rw [hx]; omega)]) (Ev.now _)⟩
  | succ t ih =>
    intro s hs
    obtain ⟨x, hx, hx2⟩ := hmx s (by omega)
    have ex : x ≤ 10 := hx2.mpr (.inl (by omega))
    obtain ⟨r, hr'⟩ := ih (s + 1) (by omega)
    have hnext : wrap64 (day - dir * (s : Int) - dir) = day - dir * ((s + 1 : Nat) : Int) := by
      rcases hdir with rfl | rfl | rfl <;> rw [wrap64_id (by omega) (by omega)] <;> omega
    cases hr : rightB (day - dir * (s : Int)) with
    | false => exact ⟨false, Ev.step (fun k => by rw [Due.l0.eq_2, Right_eq, hr, Option.bind_some, if_neg (by decide)]) (Ev.now _)⟩
    | true =>
      have hi := fn.ev hls hn _ hr
      have hw := fm.ev hls hm _ hr
      have tail : ∃ q, Ev (fun k => (in.f k l n (day - dir * (s : Int))).bind fun c => if c = true then some (true, (0 : Int)) else if dir = 0 then some (false, 0) else Due.l0 k l n m dir day (wrap64 (day - dir * (s : Int) - dir))) (q, 0) := by
        cases hb : inOf l n (day - dir * (s : Int)) with
        | true => exact ⟨true, Ev.bind hi (by rw [hb]; exact Ev.now _)⟩
        | false =>
          by_cases z : dir = 0
          · refine ⟨false, Ev.bind hi ?_⟩
            rw [hb]
            simp only [if_pos z]
            exact Ev.now _
          · refine ⟨r, Ev.bind hi ?_⟩
            rw [hb]
            simp only [if_neg z, hnext]
            exact hr'
      obtain ⟨q, hq⟩ := tail
      by_cases hdd : day - dir * (s : Int) = day
      · exact ⟨q, Ev.step (fun k => by rw [Due.l0.eq_2, Right_eq, hr, Option.bind_some, if_pos rfl, if_pos (by rw [hx]; exact ex), if_pos hdd]) hq⟩
      · cases hb : inOf l m (day - dir * (s : Int)) with
        | true => exact ⟨false, Ev.step (fun k => by rw [Due.l0.eq_2, Right_eq, hr, Option.bind_some, if_pos rfl, if_pos (by rw [hx]; exact ex), if_neg hdd]) (Ev.bind hw (by rw [hb]; exact Ev.now _))⟩
        | false => exact ⟨q, Ev.step (fun k => by rw [Due.l0.eq_2, Right_eq, hr, Option.bind_some, if_pos rfl, if_pos (by rw [hx]; exact ex), if_neg hdd]) (Ev.bind hw (by rw [hb]; exact hq))⟩
/-- What the law asks of Due. -/
theorem due_law (l : List CC) (hl : l.length ≤ 1000000000000000000) (hls : ∀ c ∈ l, Small c.f1) (n m : CN) (hn : Small n) (hm : Small m) (dir day : Int) :
    ∃ (due : Bool) (e : Int), Ev (fun k => cal_Due.f k l n.f0 n.f1 n.f2 n.f3 m.f0 m.f1 m.f2 m.f3 dir day) (due, e) ∧ (e ≠ 0 → due = false) ∧
      (e = 0 → InOf l n day = (inOf l n day, 0) ∧ InOf l m day = (inOf l m day, 0) ∧ (due = true → inOf l m day = true) ∧ (inOf l n day = true → inOf l m day = true → due = true) ∧ (dir = 0 → due = (inOf l n day && inOf l m day))) := by
  obtain ⟨a0, l1, l2, a3⟩ := n
  obtain ⟨b0, m1, m2, b3⟩ := m
  have ho := open_at l hl hls day [⟨a0, l1, l2, a3⟩, ⟨b0, m1, m2, b3⟩] (by simp [hn, hm]) (by simp)
  have un : ∀ k, cal_Due.f k l a0 l1 l2 a3 b0 m1 m2 b3 dir day = (cal_open.l0 k k l day [⟨a0, l1, l2, a3⟩, ⟨b0, m1, m2, b3⟩] 0).bind fun r => if r = 0 then (if dir < -1 then some (false, 1) else if dir > 1 then some (false, 1) else (in.f k l ⟨b0, m1, m2, b3⟩ day).bind fun b => if b = true then Due.l0 k l ⟨a0, l1, l2, a3⟩ ⟨b0, m1, m2, b3⟩ dir day day else some (false, 0)) else some (false, r) := fun k => rfl
  dsimp only
  by_cases z : openOf l day [⟨a0, l1, l2, a3⟩, ⟨b0, m1, m2, b3⟩] = 0
  rotate_left
  · refine ⟨false, _, Ev.congr un (Ev.bind ho ?_), fun _ => rfl, fun h => absurd h z⟩
    simp only [if_neg z]
    exact Ev.now _
  obtain ⟨fn, hd, z2⟩ := (openOf_cons l day _ _).mp z
  obtain ⟨fm, _, _⟩ := (openOf_cons l day _ _).mp z2
  by_cases c1 : dir < -1
  · refine ⟨false, 1, Ev.congr un (Ev.bind ho ?_), fun _ => rfl, fun h => by omega⟩
    simp only [if_pos z, if_pos c1]
    exact Ev.now _
  by_cases c2 : dir > 1
  · refine ⟨false, 1, Ev.congr un (Ev.bind ho ?_), fun _ => rfl, fun h => by omega⟩
    simp only [if_pos z, if_neg c1, if_pos c2]
    exact Ev.now _
  have hdd := (rightB_iff day).mp hd
  have hin := fn.ev hls hn day hd
  have him := fm.ev hls hm day hd
  have i1 : InOf l ⟨a0, l1, l2, a3⟩ day = (inOf l ⟨a0, l1, l2, a3⟩ day, 0) := by unfold InOf; rw [if_pos ((openOf_cons l day _ []).mpr ⟨fn, hd, rfl⟩)]
  have i2 : InOf l ⟨b0, m1, m2, b3⟩ day = (inOf l ⟨b0, m1, m2, b3⟩ day, 0) := by unfold InOf; rw [if_pos ((openOf_cons l day _ []).mpr ⟨fm, hd, rfl⟩)]
  cases hb : inOf l ⟨b0, m1, m2, b3⟩ day with
  | false =>
    refine ⟨false, 0, Ev.congr un (Ev.bind ho ?_), fun _ => rfl, fun _ => ⟨i1, hb ▸ i2, fun h => (by cases h), fun _ h => (by cases h), fun _ => (by simp)⟩⟩
    simp only [if_pos z, if_neg c1, if_neg c2]
    exact Ev.bind him (by rw [hb]; exact Ev.now _)
  | true =>
    have hx : mx (wrap64 (day - day)) (wrap64 (day - day)) ≤ 10 := by rw [wrap64_id (by omega) (by omega)]; unfold mx; split <;> omega
    have un0 : ∀ k, Due.l0 (k + 1) l ⟨a0, l1, l2, a3⟩ ⟨b0, m1, m2, b3⟩ dir day day = (in.f k l ⟨a0, l1, l2, a3⟩ day).bind fun c => if c = true then some (true, 0) else if dir = 0 then some (false, 0) else Due.l0 k l ⟨a0, l1, l2, a3⟩ ⟨b0, m1, m2, b3⟩ dir day (wrap64 (day - dir)) := fun k => by
      rw [Due.l0.eq_2, Right_eq, hd, Option.bind_some, if_pos rfl, if_pos hx, if_pos rfl]
    have go : ∀ r : Bool × Int, Ev (fun k => Due.l0 k l ⟨a0, l1, l2, a3⟩ ⟨b0, m1, m2, b3⟩ dir day day) r → Ev (fun k => cal_Due.f k l a0 l1 l2 a3 b0 m1 m2 b3 dir day) r := by
      intro r hr
      refine Ev.congr un (Ev.bind ho ?_)
      simp only [if_pos z, if_neg c1, if_neg c2]
      exact Ev.bind him (by rw [hb]; exact hr)
    cases ha : inOf l ⟨a0, l1, l2, a3⟩ day with
    | true =>
      refine ⟨true, 0, go _ (Ev.step un0 (Ev.bind hin (by rw [ha]; exact Ev.now _))), fun h => absurd rfl h, fun _ => ⟨ha ▸ i1, hb ▸ i2, fun _ => rfl, fun _ _ => rfl, fun _ => rfl⟩⟩
    | false =>
      by_cases c3 : dir = 0
      · refine ⟨false, 0, go _ (Ev.step un0 (Ev.bind hin ?_)), fun h => absurd rfl h, fun _ => ⟨ha ▸ i1, hb ▸ i2, fun h => (by cases h), fun h => (by cases h), fun _ => rfl⟩⟩
        rw [ha]
        simp only [if_pos c3]
        exact Ev.now _
      · obtain ⟨r, hr⟩ := due_l0 hls hn hm fn fm dir day hdd (by omega) 10 1 rfl
        refine ⟨r, 0, go _ (Ev.step un0 (Ev.bind hin ?_)), fun h => absurd rfl h, fun _ => ⟨ha ▸ i1, hb ▸ i2, fun _ => rfl, fun h => (by cases h), fun h => absurd h c3⟩⟩
        rw [ha]
        simp only [if_neg c3]
        rw [wrap64_id (x := day - dir) (by omega) (by omega)]
        rw [show day - dir * ((1 : Nat) : Int) = day - dir by omega] at hr
        exact hr
end Go.Proofs.YtpcjbnaggeiaoaaDoor.QCalMoved
