/- What the law CalSets asks holds: not, and, or of nodes are what they are of sets; for all calendars, nodes and days. -/
import Derived.Test.YtpcjbnaggeiaoaaDoorPureCalMoved
namespace Go.Proofs.YtpcjbnaggeiaoaaDoor.QCalMoved
open Go.RowKit Go.Proofs.YtpcjbnaggeiaoaaDoor.PCalMoved Go.Proofs.YtpcjbnaggeiaoaaDoorW.PrintWords Go.Proofs.YtpcjbnaggeiaoaaDoorW.PrintLast Go.Proofs.YtpcjbnaggeiaoaaDoorW.PrintMore Go.Proofs.YtpcjbnaggeiaoaaDoor.MDate Go.Proofs.YtpcjbnaggeiaoaaDoor.MBits
set_option linter.unusedVariables false
set_option linter.unusedSimpArgs false
/-- A walk that came to its end comes to it from another count, too, or the count is too great. -/
theorem walk_shift (l : List CC) (hl : l.length ≤ 1000000000000000000) (hls : ∀ c ∈ l, Small c.f1) : ∀ (k : Nat), (∀ (n : CN) (refs : Int) (work : Bool) (met met' : Int), cal_book_walk.f k l met n refs work = some (0, met') → 0 ≤ met → met ≤ 256 → Small n → 0 ≤ refs → refs ≤ 24 →
      met + 1 ≤ met' ∧ met' ≤ 256 ∧ ∀ met2, 0 ≤ met2 → met2 ≤ 256 → (met2 + (met' - met) ≤ 256 → cal_book_walk.f k l met2 n refs work = some (0, met2 + (met' - met))) ∧ (256 < met2 + (met' - met) → ∃ z, cal_book_walk.f k l met2 n refs work = some (23, z))) ∧
    (∀ (ks : List CN) (i : Nat) (refs : Int) (work : Bool) (met met' : Int), cal_book_walk.l0 k l met ks (i : Int) refs work = some (0, met') → 0 ≤ met → met ≤ 256 → (∀ c ∈ ks, Small c) → ks.length ≤ 1000000000000000000 → 0 ≤ refs → refs ≤ 24 →
      met ≤ met' ∧ met' ≤ 256 ∧ ∀ met2, 0 ≤ met2 → met2 ≤ 256 → (met2 + (met' - met) ≤ 256 → cal_book_walk.l0 k l met2 ks (i : Int) refs work = some (0, met2 + (met' - met))) ∧ (256 < met2 + (met' - met) → ∃ z, cal_book_walk.l0 k l met2 ks (i : Int) refs work = some (23, z))) := by
  intro k
  induction k with
  | zero => exact ⟨fun n refs work met met' h => by simp [cal_book_walk.f] at h, fun ks i refs work met met' h => by simp [cal_book_walk.l0] at h⟩
  | succ k ih =>
    obtain ⟨ihf, ihl⟩ := ih
    constructor
    · intro n refs work met met' h m0 m1 hn r0 r1
      have e1 : wrap64 (met + 1) = met + 1 := wrap64_id (by omega) (by omega)
      rw [cal_book_walk.f.eq_2, e1] at h
      by_cases c : met + 1 > 256
      · rw [if_pos c] at h; cases h
      rw [if_neg c] at h
      obtain ⟨f1, f2⟩ := find_bd (cal_Find.p n.f3) l
      have over : ∀ met2, 0 ≤ met2 → met2 ≤ 256 → met2 + 1 > 256 → ∃ z, cal_book_walk.f (k + 1) l met2 n refs work = some (23, z) := fun met2 p0 p1 hc => ⟨met2 + 1, by rw [cal_book_walk.f.eq_2, wrap64_id (x := met2 + 1) (by omega) (by omega), if_pos hc]⟩
      -- where a name goes
      have go : ∀ work2 : Bool, (∀ met2, 0 ≤ met2 → met2 ≤ 255 → cal_book_walk.f (k + 1) l met2 n refs work = (cal_Find.f l n.f3).bind fun i => if i < 0 then some (21, met2 + 1) else if refs = 24 then some (23, met2 + 1) else if i < (l.length : Int) then cal_book_walk.f k l (met2 + 1) (rd_T48 l i).f1 (wrap64 (refs + 1)) work2 else none) →
          ((cal_Find.f l n.f3).bind fun i => if i < 0 then some (21, met + 1) else if refs = 24 then some (23, met + 1) else if i < (l.length : Int) then cal_book_walk.f k l (met + 1) (rd_T48 l i).f1 (wrap64 (refs + 1)) work2 else none) = some (0, met') →
          met + 1 ≤ met' ∧ met' ≤ 256 ∧ ∀ met2, 0 ≤ met2 → met2 ≤ 256 → (met2 + (met' - met) ≤ 256 → cal_book_walk.f (k + 1) l met2 n refs work = some (0, met2 + (met' - met))) ∧ (256 < met2 + (met' - met) → ∃ z, cal_book_walk.f (k + 1) l met2 n refs work = some (23, z)) := by
        intro work2 hun h
        rw [Find_eq l _ hl, Option.bind_some] at h
        by_cases c1 : findIdx1 (cal_Find.p n.f3) l < 0
        · rw [if_pos c1] at h; cases h
        rw [if_neg c1] at h
        by_cases c2 : refs = 24
        · rw [if_pos c2] at h; cases h
        rw [if_neg c2, if_pos f1] at h
        obtain ⟨j, hj⟩ : ∃ j : Nat, findIdx1 (cal_Find.p n.f3) l = j := ⟨(findIdx1 (cal_Find.p n.f3) l).toNat, by omega⟩
        rw [hj] at f1 h
        have hjl : j < l.length := by omega
        rw [rdC_at l j hjl, wrap64_id (x := refs + 1) (by omega) (by omega)] at h
        obtain ⟨a1, a2, a3⟩ := ihf _ _ _ _ _ h (by omega) (by omega) (hls _ (List.getElem_mem hjl)) (by omega) (by omega)
        refine ⟨by omega, a2, fun met2 p0 p1 => ?_⟩
        by_cases c3 : met2 + 1 > 256
        · exact ⟨fun hs => by omega, fun _ => over met2 p0 p1 c3⟩
        obtain ⟨b1, b2⟩ := a3 (met2 + 1) (by omega) (by omega)
        rw [hun met2 p0 (by omega), Find_eq l _ hl, Option.bind_some, if_neg c1, if_neg c2, hj, if_pos f1, rdC_at l j hjl, wrap64_id (x := refs + 1) (by omega) (by omega)]
        have e : met2 + 1 + (met' - (met + 1)) = met2 + (met' - met) := by omega
        rw [e] at b1 b2
        exact ⟨fun hs => b1 (by omega), fun hs => b2 (by omega)⟩
      by_cases q5 : n.f0 = 5
      · rw [if_pos q5] at h
        cases work with
        | true => rw [if_pos rfl] at h; cases h
        | false =>
          rw [if_neg (by decide)] at h
          exact go true (fun met2 p0 p1 => by rw [cal_book_walk.f.eq_2, wrap64_id (x := met2 + 1) (by omega) (by omega), if_neg (by omega), if_pos q5, if_neg (by decide)]) h
      rw [if_neg q5] at h
      by_cases q10 : n.f0 = 10
      · rw [if_pos q10] at h
        exact go work (fun met2 p0 p1 => by rw [cal_book_walk.f.eq_2, wrap64_id (x := met2 + 1) (by omega) (by omega), if_neg (by omega), if_neg q5, if_pos q10]) h
      rw [if_neg q10] at h
      obtain ⟨a1, a2, a3⟩ := ihl n.f2 0 refs work (met + 1) met' h (by omega) (by omega) hn.kids hn.len2 r0 r1
      refine ⟨a1, a2, fun met2 p0 p1 => ?_⟩
      by_cases c3 : met2 + 1 > 256
      · exact ⟨fun hs => by omega, fun _ => over met2 p0 p1 c3⟩
      obtain ⟨b1, b2⟩ := a3 (met2 + 1) (by omega) (by omega)
      rw [cal_book_walk.f.eq_2, wrap64_id (x := met2 + 1) (by omega) (by omega), if_neg c3, if_neg q5, if_neg q10]
      have e : met2 + 1 + (met' - (met + 1)) = met2 + (met' - met) := by omega
      rw [e] at b1 b2
      exact ⟨fun hs => b1 (by omega), fun hs => b2 (by omega)⟩
    · intro ks i refs work met met' h m0 m1 hk hkl r0 r1
      rw [cal_book_walk.l0.eq_2] at h
      by_cases c : (i : Int) < (ks.length : Int)
      · have hlt : i < ks.length := by omega
        rw [if_pos c, if_pos (by omega), rdN_at ks i hlt, wrap64_id (x := (i : Int) + 1) (by omega) (by omega)] at h
        obtain ⟨t, ht, h⟩ := Option.bind_eq_some_iff.mp h
        by_cases z : t.1 = 0
        · rw [if_pos z] at h
          have et : t = (0, t.2) := by rw [← z]
          rw [et] at ht
          obtain ⟨a1, a2, a3⟩ := ihf _ _ _ _ _ ht m0 m1 (hk _ (List.getElem_mem hlt)) r0 r1
          obtain ⟨b1, b2, b3⟩ := ihl ks (i + 1) refs work t.2 met' h (by omega) a2 hk hkl r0 r1
          refine ⟨by omega, b2, fun met2 p0 p1 => ⟨fun hs => ?_, fun hs => ?_⟩⟩
          · obtain ⟨c1, _⟩ := a3 met2 p0 p1
            have c1 := c1 (by omega)
            obtain ⟨d1, _⟩ := b3 (met2 + (t.2 - met)) (by omega) (by omega)
            have d1 := d1 (by omega)
            rw [cal_book_walk.l0.eq_2, if_pos c, if_pos (by omega), rdN_at ks i hlt, wrap64_id (x := (i : Int) + 1) (by omega) (by omega), c1, Option.bind_some]
            show (if (0 : Int) = 0 then cal_book_walk.l0 k l (met2 + (t.2 - met)) ks ((i : Int) + 1) refs work else _) = _
            rw [if_pos rfl]
            have e : met2 + (t.2 - met) + (met' - t.2) = met2 + (met' - met) := by omega
            rw [e] at d1
            exact d1
          · rw [cal_book_walk.l0.eq_2, if_pos c, if_pos (by omega), rdN_at ks i hlt, wrap64_id (x := (i : Int) + 1) (by omega) (by omega)]
            obtain ⟨c1, c2⟩ := a3 met2 p0 p1
            by_cases hs2 : met2 + (t.2 - met) ≤ 256
            · rw [c1 hs2, Option.bind_some]
              show ∃ z, (if (0 : Int) = 0 then cal_book_walk.l0 k l (met2 + (t.2 - met)) ks ((i : Int) + 1) refs work else _) = _
              rw [if_pos rfl]
              exact (b3 (met2 + (t.2 - met)) (by omega) hs2).2 (by omega)
            · obtain ⟨q, hq⟩ := c2 (by omega)
              rw [hq, Option.bind_some]
              exact ⟨q, by simp⟩
        · rw [if_neg z] at h
          have := Option.some.inj h
          rw [this] at z
          exact absurd rfl z
      · rw [if_neg c] at h
        obtain rfl := (Prod.mk.inj (Option.some.inj h)).2
        refine ⟨Int.le_refl _, m1, fun met2 p0 p1 => ⟨fun hs => by rw [cal_book_walk.l0.eq_2, if_neg c]; congr 2; omega, fun hs => by omega⟩⟩
/-- The walk over a node whose parts can be walked over, each alone: to its end, or too many nodes. -/
theorem walk_kids (l : List CC) (hl : l.length ≤ 1000000000000000000) (hls : ∀ c ∈ l, Small c.f1) (ks : List CN) (hkl : ks.length ≤ 10) (hk : ∀ c ∈ ks, Small c) (hw : ∀ c ∈ ks, (walkOf l c).1 = 0) : ∀ (d i : Nat) (met : Int), i + d = ks.length → 0 ≤ met → met ≤ 256 → ∃ r : Int × Int, Ev (fun k => cal_book_walk.l0 k l met ks (i : Int) 0 false) r ∧ (r.1 = 0 ∨ r.1 = 23) := by
  intro d
  induction d with
  | zero => intro i met hi h0 h1; exact ⟨(0, met), Ev.step (fun k => by rw [cal_book_walk.l0.eq_2, if_neg (by omega)]) (Ev.now _), .inl rfl⟩
  | succ d ih =>
    intro i met hi h0 h1
    have hlt : i < ks.length := by omega
    have hm := List.getElem_mem hlt
    obtain ⟨k, hk1⟩ := (walkOf_ev l hl hls ks[i] (hk _ hm)).rounds
    have e : walkOf l ks[i] = (0, (walkOf l ks[i]).2) := by rw [← hw _ hm]
    rw [e] at hk1
    obtain ⟨a1, a2, a3⟩ := (walk_shift l hl hls k).1 _ _ _ _ _ hk1 (by omega) (by omega) (hk _ hm) (by omega) (by omega)
    obtain ⟨b1, b2⟩ := a3 met h0 h1
    by_cases hs : met + ((walkOf l ks[i]).2 - 0) ≤ 256
    · obtain ⟨r, hr, hr2⟩ := ih (i + 1) (met + ((walkOf l ks[i]).2 - 0)) (by omega) (by omega) hs
      refine ⟨r, Ev.step (fun k => by rw [cal_book_walk.l0.eq_2, if_pos (by omega), if_pos (by omega), rdN_at ks i hlt, wrap64_id (x := (i : Int) + 1) (by omega) (by omega)]) (Ev.bind (Ev.of (fun k => cal_book_walk.mono _ _ _ _ _ k) (b1 hs)) ?_), hr2⟩
      simpa using hr
    · obtain ⟨z, hz⟩ := b2 (by omega)
      refine ⟨(23, z), Ev.step (fun k => by rw [cal_book_walk.l0.eq_2, if_pos (by omega), if_pos (by omega), rdN_at ks i hlt, wrap64_id (x := (i : Int) + 1) (by omega) (by omega)]) (Ev.bind (Ev.of (fun k => cal_book_walk.mono _ _ _ _ _ k) hz) ?_), .inr rfl⟩
      simp only [if_neg (show ¬ (23 : Int) = 0 by omega)]
      exact Ev.now _
theorem walk_set (l : List CC) (hl : l.length ≤ 1000000000000000000) (hls : ∀ c ∈ l, Small c.f1) (op : Int) (ho : op ≠ 5 ∧ op ≠ 10) (ks : List CN) (hkl : ks.length ≤ 10) (hk : ∀ c ∈ ks, Small c) (hw : ∀ c ∈ ks, (walkOf l c).1 = 0) : ∃ r : Int × Int, (∀ op2, op2 ≠ 5 ∧ op2 ≠ 10 → walkOf l ⟨op2, [], ks, ⟨#[]⟩⟩ = r) ∧ (r.1 = 0 ∨ r.1 = 23) := by
  obtain ⟨r, hr, hr2⟩ := walk_kids l hl hls ks hkl hk hw ks.length 0 1 (by omega) (by omega) (by omega)
  refine ⟨r, fun op2 ho2 => ?_, hr2⟩
  have hs : Small ⟨op2, [], ks, ⟨#[]⟩⟩ := .mk _ (by simp) (by dsimp only; omega) (fun x hx => by cases hx) hk (by simp [ByteArray.size])
  have h1 := walkOf_ev l hl hls _ hs
  refine Ev.uniq h1 (Ev.step (fun k => by rw [cal_book_walk.f.eq_2, wrap64_id (x := (0 : Int) + 1) (by omega) (by omega), if_neg (by omega), if_neg ho2.1, if_neg ho2.2]) ?_)
  simpa using hr
theorem set_small (op : Int) (ks : List CN) (hkl : ks.length ≤ 10) (hk : ∀ c ∈ ks, Small c) : Small ⟨op, [], ks, ⟨#[]⟩⟩ := .mk _ (by simp) (by dsimp only; omega) (fun x hx => by cases hx) hk (by simp [ByteArray.size])
open Classical in
theorem sets_law (l : List CC) (hls : ∀ c ∈ l, Small c.f1) (x y : CN) (hx : Small x) (hy : Small y) (day : Int) (fx : Fine l x) (fy : Fine l y) (hd : rightB day = true) :
    ((InOf l ⟨7, [], [x, y], ⟨#[]⟩⟩ day).2 = 1 ∨ (InOf l ⟨7, [], [x, y], ⟨#[]⟩⟩ day).2 = 23 ∨ (InOf l ⟨9, [], [x], ⟨#[]⟩⟩ day).2 = 1 ∨ (InOf l ⟨9, [], [x], ⟨#[]⟩⟩ day).2 = 23) ∨
    ((InOf l ⟨7, [], [x, y], ⟨#[]⟩⟩ day) = (inOf l x day && inOf l y day, 0) ∧ (InOf l ⟨8, [], [x, y], ⟨#[]⟩⟩ day) = (inOf l x day || inOf l y day, 0) ∧ (InOf l ⟨9, [], [x], ⟨#[]⟩⟩ day) = (!inOf l x day, 0)) := by
  have hl : l.length ≤ 1000000000000000000 := by have := fx.len; omega
  have hk2 : ∀ c ∈ [x, y], Small c := by simp [hx, hy]
  have hk1 : ∀ c ∈ [x], Small c := by simp [hx]
  obtain ⟨r2, hr2, hr2'⟩ := walk_set l hl hls 7 (by omega) [x, y] (by simp) hk2 (by simp [fx.walk, fy.walk])
  obtain ⟨r1, hr1, hr1'⟩ := walk_set l hl hls 9 (by omega) [x] (by simp) hk1 (by simp [fx.walk])
  have opn : ∀ n : CN, openOf l day [n] = (if rightN 16 n = false then 1 else if (walkOf l n).1 = 0 then 0 else (walkOf l n).1) := by
    intro n
    show (if 24 < l.length then (3 : Int) else if (l.all (fun c => rightN 16 c.f1) && rightN 16 n) = false then 1 else if rightB day = false then 6 else if (walkOf l n).1 = 0 then 0 else (walkOf l n).1) = _
    rw [if_neg (by have := fx.len; omega), List.all_eq_true.mpr fx.all, Bool.true_and, if_neg (show ¬ rightB day = false by rw [hd]; decide)]
  have err : ∀ n : CN, (walkOf l n).1 = 0 ∨ (walkOf l n).1 = 23 → openOf l day [n] ≠ 0 → (InOf l n day).2 = 1 ∨ (InOf l n day).2 = 23 := by
    intro n hw hne
    unfold InOf
    rw [if_neg hne, opn]
    dsimp only
    by_cases c : rightN 16 n = false
    · rw [if_pos c]; exact .inl rfl
    · rw [if_neg c]
      rcases hw with hw | hw
      · exfalso; apply hne; rw [opn, if_neg c, if_pos hw]
      · rw [if_neg (by omega)]; exact .inr hw
  by_cases z7 : openOf l day [⟨7, [], [x, y], ⟨#[]⟩⟩] = 0
  rotate_left
  · rcases err _ (by rw [hr2 7 (by omega)]; exact hr2') z7 with h | h
    · exact .inl (.inl h)
    · exact .inl (.inr (.inl h))
  by_cases z9 : openOf l day [⟨9, [], [x], ⟨#[]⟩⟩] = 0
  rotate_left
  · rcases err _ (by rw [hr1 9 (by omega)]; exact hr1') z9 with h | h
    · exact .inl (.inr (.inr (.inl h)))
    · exact .inl (.inr (.inr (.inr h)))
  right
  obtain ⟨f7, _, _⟩ := (openOf_cons l day _ []).mp z7
  obtain ⟨f9, _, _⟩ := (openOf_cons l day _ []).mp z9
  have f8 : Fine l ⟨8, [], [x, y], ⟨#[]⟩⟩ := by
    refine ⟨f7.len, f7.all, ?_, ?_⟩
    · have := f7.right
      simp only [rightN, numsB, kidsB] at this ⊢
      simpa using this
    · have := f7.walk
      rw [hr2 7 (by omega)] at this
      rw [hr2 8 (by omega)]
      exact this
  have z8 : openOf l day [⟨8, [], [x, y], ⟨#[]⟩⟩] = 0 := (openOf_cons l day _ []).mpr ⟨f8, hd, rfl⟩
  obtain ⟨d1, d2⟩ := (rightB_iff day).mp hd
  obtain ⟨f, g, hs, hsp, h1, h2⟩ := span_at day d1 d2
  obtain ⟨b1, b2, b3, b4⟩ := hsp.bd
  have hB : ∀ c ∈ [x, y], ∃ B, MonthIs l c f g B := by
    intro c hc
    rcases List.mem_cons.mp hc with rfl | hc
    · exact fx.tot hls hx hsp
    · rw [List.mem_singleton.mp hc]; exact fy.tot hls hy hsp
  let B : CN → Nat → Bool := fun c => if h : ∃ B, MonthIs l c f g B then Classical.choose h else fun _ => false
  have hBs : ∀ c ∈ [x, y], MonthIs l c f g (B c) := by
    intro c hc
    have h := hB c hc
    show MonthIs l c f g (if h : ∃ B, MonthIs l c f g B then Classical.choose h else fun _ => false)
    rw [dif_pos h]
    exact Classical.choose_spec h
  have ex : inOf l x day = B x (day - f).toNat := (Ev.uniq (fx.ev hls hx day hd)) (in_at l x day hs hsp h1 h2 _ (hBs x (by simp)))
  have ey : inOf l y day = B y (day - f).toNat := (Ev.uniq (fy.ev hls hy day hd)) (in_at l y day hs hsp h1 h2 _ (hBs y (by simp)))
  have hin : inM g (day - f).toNat = true := by
    unfold inM
    rw [decide_eq_true (show (((day - f).toNat : Nat) : Int) < g by omega), decide_eq_true (show (day - f).toNat < 31 by omega)]; rfl
  have e7 : inOf l ⟨7, [], [x, y], ⟨#[]⟩⟩ day = (inOf l x day && inOf l y day) := by
    rw [Ev.uniq (f7.ev hls (set_small 7 _ (by simp) hk2) day hd) (in_at l _ day hs hsp h1 h2 _ (month_and l [] [x, y] ⟨#[]⟩ (by simp) B hBs)), ex, ey]
    rw [hin]; simp
  have e8 : inOf l ⟨8, [], [x, y], ⟨#[]⟩⟩ day = (inOf l x day || inOf l y day) := by
    rw [Ev.uniq (f8.ev hls (set_small 8 _ (by simp) hk2) day hd) (in_at l _ day hs hsp h1 h2 _ (month_or l [] [x, y] ⟨#[]⟩ (by simp) B hBs)), ex, ey]
    simp
  have e9 : inOf l ⟨9, [], [x], ⟨#[]⟩⟩ day = !inOf l x day := by
    rw [Ev.uniq (f9.ev hls (set_small 9 _ (by simp) hk1) day hd) (in_at l _ day hs hsp h1 h2 _ (month_not l [] x [] ⟨#[]⟩ _ (hBs x (by simp)))), ex]
    rw [hin]; simp
  unfold InOf
  rw [if_pos z7, if_pos z8, if_pos z9, e7, e8, e9]
  exact ⟨rfl, rfl, rfl⟩
theorem In_set (l : List CC) (hl : l.length ≤ 1000000000000000000) (hls : ∀ c ∈ l, Small c.f1) (op : Int) (ks : List CN) (hkl : ks.length ≤ 10) (hk : ∀ c ∈ ks, Small c) (day : Int) : Ev (fun k => cal_In.f k l op [] ks ⟨#[]⟩ day) (InOf l ⟨op, [], ks, ⟨#[]⟩⟩ day) := In_ev l hl hls _ (set_small op ks hkl hk) day
theorem sets_pure (l : List RC) (hl : l.length * 88 ≤ 140737488351232) (hc : ∀ c ∈ l, NodeOk c.f1) (n m : RN) (hn : NodeOk n) (hm : NodeOk m) (day : Int) :
    ∃ (k : Nat) (lc : List CC) (x y : CN) (a b p q r : Bool) (e f g h i : Int), dayshiftlaw06_cals.f k l = some lc ∧ dayshiftlaw06_given.f k n.f0 n.f1 n.f2 n.f3 = some (x.f0, x.f1, x.f2, x.f3) ∧ dayshiftlaw06_given.f k m.f0 m.f1 m.f2 m.f3 = some (y.f0, y.f1, y.f2, y.f3) ∧
      cal_In.f k lc x.f0 x.f1 x.f2 x.f3 day = some (a, e) ∧ cal_In.f k lc y.f0 y.f1 y.f2 y.f3 day = some (b, f) ∧ (e = 0 → f = 0 → cal_In.f k lc 7 [] [x, y] ⟨#[]⟩ day = some (p, g)) ∧ (e = 0 → f = 0 → cal_In.f k lc 8 [] [x, y] ⟨#[]⟩ day = some (q, h)) ∧ (e = 0 → f = 0 → cal_In.f k lc 9 [] [x] ⟨#[]⟩ day = some (r, i)) ∧
      (e = 0 → f = 0 → (g = 1 ∨ g = 23 ∨ i = 1 ∨ i = 23) ∨ (g = 0 ∧ h = 0 ∧ i = 0 ∧ p = (a && b) ∧ q = (a || b) ∧ r = !a)) ∧ dayshiftlaw06_known.f k = some true := by
  obtain ⟨lc, ⟨K1, h1⟩, hls, hlen, _⟩ := cals_ev l hl hc
  obtain ⟨x, ⟨K2, h2⟩, sx, _⟩ := given_ev n hn
  obtain ⟨y, ⟨K3, h3⟩, sy, _⟩ := given_ev m hm
  have hll : lc.length ≤ 1000000000000000000 := by omega
  have hk2 : ∀ c ∈ [x, y], Small c := by simp [sx, sy]
  have hk1 : ∀ c ∈ [x], Small c := by simp [sx]
  obtain ⟨K4, h4⟩ := In_ev lc hll hls x sx day
  obtain ⟨K5, h5⟩ := In_ev lc hll hls y sy day
  obtain ⟨K6, h6⟩ := In_set lc hll hls 7 [x, y] (by simp) hk2 day
  obtain ⟨K7, h7⟩ := In_set lc hll hls 8 [x, y] (by simp) hk2 day
  obtain ⟨K8, h8⟩ := In_set lc hll hls 9 [x] (by simp) hk1 day
  obtain ⟨K9, h9⟩ := known_ev
  refine ⟨K1 + K2 + K3 + K4 + K5 + K6 + K7 + K8 + K9, lc, x, y, (InOf lc x day).1, (InOf lc y day).1, (InOf lc ⟨7, [], [x, y], ⟨#[]⟩⟩ day).1, (InOf lc ⟨8, [], [x, y], ⟨#[]⟩⟩ day).1, (InOf lc ⟨9, [], [x], ⟨#[]⟩⟩ day).1, (InOf lc x day).2, (InOf lc y day).2, (InOf lc ⟨7, [], [x, y], ⟨#[]⟩⟩ day).2, (InOf lc ⟨8, [], [x, y], ⟨#[]⟩⟩ day).2, (InOf lc ⟨9, [], [x], ⟨#[]⟩⟩ day).2, h1 _ (by omega), h2 _ (by omega), h3 _ (by omega), h4 _ (by omega), h5 _ (by omega), fun _ _ => h6 _ (by omega), fun _ _ => h7 _ (by omega), fun _ _ => h8 _ (by omega), fun z1 z2 => ?_, h9 _ (by omega)⟩
  have zero : ∀ n : CN, (InOf lc n day).2 = 0 → openOf lc day [n] = 0 := by
    intro n h
    unfold InOf at h
    by_cases c : openOf lc day [n] = 0
    · exact c
    · rw [if_neg c] at h; exact h
  have ox := zero x z1
  have oy := zero y z2
  obtain ⟨fx, hd, _⟩ := (openOf_cons lc day _ []).mp ox
  obtain ⟨fy, _, _⟩ := (openOf_cons lc day _ []).mp oy
  have ex : (InOf lc x day).1 = inOf lc x day := by unfold InOf; rw [if_pos ox]
  have ey : (InOf lc y day).1 = inOf lc y day := by unfold InOf; rw [if_pos oy]
  rcases sets_law lc hls x y sx sy day fx fy hd with h | ⟨e7, e8, e9⟩
  · exact .inl h
  · rw [e7, e8, e9, ex, ey]
    exact .inr ⟨rfl, rfl, rfl, rfl, rfl, rfl⟩
end Go.Proofs.YtpcjbnaggeiaoaaDoor.QCalMoved
