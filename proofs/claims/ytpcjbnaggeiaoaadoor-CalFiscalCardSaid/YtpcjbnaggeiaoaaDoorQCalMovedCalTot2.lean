/- The walk over the calendars ends; what open, a month's days and In come to, each with enough rounds. No conditions beyond those that each theorem names. -/
import Derived.Test.YtpcjbnaggeiaoaaDoorQCalMovedCalTot
import Derived.Test.YtpcjbnaggeiaoaaDoorQCalMovedXDays6
namespace Go.Proofs.YtpcjbnaggeiaoaaDoor.QCalMoved
open Go.RowKit Go.Proofs.YtpcjbnaggeiaoaaDoor.PCalMoved Go.Proofs.YtpcjbnaggeiaoaaDoorW.PrintWords Go.Proofs.YtpcjbnaggeiaoaaDoorW.PrintLast Go.Proofs.YtpcjbnaggeiaoaaDoorW.PrintMore Go.Proofs.YtpcjbnaggeiaoaaDoor.MDate Go.Proofs.YtpcjbnaggeiaoaaDoor.MBits
set_option linter.unusedVariables false
set_option linter.unusedSimpArgs false
theorem Find_eq (l : List CC) (name : ByteArray) (hl : l.length ≤ 1000000000000000000) : cal_Find.f l name = some (findIdx1 (cal_Find.p name) l) := by
  unfold cal_Find.f
  rw [if_pos (by omega)]
theorem find_bd (p : CC → Bool) (l : List CC) : findIdx1 p l < (l.length : Int) ∧ -1 ≤ findIdx1 p l := by
  unfold findIdx1
  by_cases h : l.any p = true
  · rw [if_pos h]
    have := List.findIdx_lt_length_of_exists (List.any_eq_true.mp h)
    omega
  · rw [if_neg h]; omega
/-! ### The walk -/
def WalkEnds (met : Int) (g : Nat → Option (Int × Int)) : Prop := ∃ r : Int × Int, Ev g r ∧ (r.1 = 0 ∨ r.1 = 21 ∨ r.1 = 23) ∧ met ≤ r.2 ∧ r.2 ≤ 257 ∧ (r.1 = 0 → r.2 ≤ 256)
theorem WalkEnds.step {met : Int} {g f : Nat → Option (Int × Int)} (h : ∀ k, g (k + 1) = f k) (k : WalkEnds met f) : WalkEnds met g := by
  obtain ⟨r, h1, h2⟩ := k
  exact ⟨r, Ev.step h h1, h2⟩
theorem WalkEnds.err {met : Int} (e z : Int) (he : e = 21 ∨ e = 23) (h1 : met ≤ z) (h2 : z ≤ 257) : WalkEnds met (fun _ => some (e, z)) := ⟨(e, z), Ev.now _, by rcases he with rfl | rfl; exact .inr (.inl rfl); exact .inr (.inr rfl), h1, h2, fun h => by rcases he with rfl | rfl <;> simp at h⟩
theorem WalkEnds.weak {a b : Int} {g : Nat → Option (Int × Int)} (h : WalkEnds b g) (hab : a ≤ b) : WalkEnds a g := by
  obtain ⟨r, h1, h2, h3, h4⟩ := h
  exact ⟨r, h1, h2, by omega, h4⟩
theorem walk_tot (l : List CC) (hl : l.length ≤ 1000000000000000000) (hls : ∀ c ∈ l, Small c.f1) : ∀ (m : Nat) (met : Int), 0 ≤ met → met ≤ 256 → 256 - met ≤ m → ∀ (n : CN) (refs : Int) (work : Bool), 0 ≤ refs → refs ≤ 24 → Small n → WalkEnds (met + 1) (fun k => cal_book_walk.f k l met n refs work) := by
  intro m
  induction m with
  | zero =>
    intro met h0 h1 h2 n refs work _ _ _
    have e : wrap64 (met + 1) = met + 1 := wrap64_id (by omega) (by omega)
    exact WalkEnds.step (fun k => by rw [cal_book_walk.f.eq_2, e, if_pos (by omega)]) (WalkEnds.err _ _ (.inr rfl) (Int.le_refl _) (by omega))
  | succ m ih =>
    intro met h0 h1 h2 n refs work hr0 hr1 hn
    have e : wrap64 (met + 1) = met + 1 := wrap64_id (by omega) (by omega)
    by_cases c : met + 1 > 256
    · exact WalkEnds.step (fun k => by rw [cal_book_walk.f.eq_2, e, if_pos c]) (WalkEnds.err _ _ (.inr rfl) (Int.le_refl _) (by omega))
    have kids : ∀ (ks : List CN), ks.length ≤ 1000000000000000000 → (∀ c ∈ ks, Small c) → ∀ (d i : Nat) (met2 : Int), i + d = ks.length → met + 1 ≤ met2 → met2 ≤ 256 → WalkEnds met2 (fun k => cal_book_walk.l0 k l met2 ks (i : Int) refs work) := by
      intro ks hkl hk d
      induction d with
      | zero =>
        intro i met2 hi h3 h4
        exact WalkEnds.step (fun k => by rw [cal_book_walk.l0.eq_2, if_neg (by omega)]) ⟨(0, met2), Ev.now _, .inl rfl, Int.le_refl _, by show met2 ≤ 257; omega, fun _ => h4⟩
      | succ d ihd =>
        intro i met2 hi h3 h4
        have hlt : i < ks.length := by omega
        have hmem := rdN_mem ks i hlt
        obtain ⟨r, hr, hr1', hr2, hr3, hr4⟩ := ih met2 (by omega) (by omega) (by omega) (rd_T31 ks (i : Int)) refs work hr0 hr1 (hk _ hmem)
        refine WalkEnds.step (fun k => by rw [cal_book_walk.l0.eq_2, if_pos (by omega), if_pos (by omega), wrap64_id (x := (i : Int) + 1) (by omega) (by omega)]) ?_
        by_cases z : r.1 = 0
        · obtain ⟨s, hs1, hs2, hs3, hs4, hs5⟩ := ihd (i + 1) r.2 (by omega) (by omega) (hr4 z)
          refine ⟨s, Ev.bind hr ?_, hs2, by omega, hs4, hs5⟩
          simp only [if_pos z]
          simpa using hs1
        · refine ⟨r, Ev.bind hr ?_, hr1', by omega, hr3, hr4⟩
          simp only [if_neg z]
          exact Ev.now _
    obtain ⟨f1, f2⟩ := find_bd (cal_Find.p n.f3) l
    have go : ∀ work2 : Bool, WalkEnds (met + 1) (fun k => (cal_Find.f l n.f3).bind fun i => if i < 0 then some (21, met + 1) else if refs = 24 then some (23, met + 1) else if i < (l.length : Int) then cal_book_walk.f k l (met + 1) (rd_T48 l i).f1 (wrap64 (refs + 1)) work2 else none) := by
      intro work2
      simp only [Find_eq l _ hl, Option.bind_some]
      by_cases c1 : findIdx1 (cal_Find.p n.f3) l < 0
      · simp only [if_pos c1]; exact WalkEnds.err _ _ (.inl rfl) (Int.le_refl _) (by omega)
      simp only [if_neg c1]
      by_cases c2 : refs = 24
      · simp only [if_pos c2]; exact WalkEnds.err _ _ (.inr rfl) (Int.le_refl _) (by omega)
      simp only [if_neg c2, if_pos f1]
      rw [wrap64_id (x := refs + 1) (by omega) (by omega)]
      obtain ⟨j, hj⟩ : ∃ j : Nat, findIdx1 (cal_Find.p n.f3) l = j := ⟨(findIdx1 (cal_Find.p n.f3) l).toNat, by omega⟩
      rw [hj] at f1 ⊢
      have hjl : j < l.length := by omega
      rw [rdC_at l j hjl]
      exact (ih (met + 1) (by omega) (by omega) (by omega) l[j].f1 (refs + 1) work2 (by omega) (by omega) (hls _ (List.getElem_mem hjl))).weak (by omega)
    by_cases q5 : n.f0 = 5
    · cases work with
      | true => exact WalkEnds.step (fun k => by rw [cal_book_walk.f.eq_2, e, if_neg c, if_pos q5, if_pos rfl]) (WalkEnds.err _ _ (.inr rfl) (Int.le_refl _) (by omega))
      | false => exact WalkEnds.step (fun k => by rw [cal_book_walk.f.eq_2, e, if_neg c, if_pos q5, if_neg (by decide)]) (go true)
    by_cases q10 : n.f0 = 10
    · exact WalkEnds.step (fun k => by rw [cal_book_walk.f.eq_2, e, if_neg c, if_neg q5, if_pos q10]) (go work)
    · refine WalkEnds.step (fun k => by rw [cal_book_walk.f.eq_2, e, if_neg c, if_neg q5, if_neg q10]) ?_
      simpa using kids n.f2 hn.len2 hn.kids n.f2.length 0 (met + 1) (by omega) (by omega) (by omega)
/-! ### Open -/
open Classical in
noncomputable def walkOf (l : List CC) (n : CN) : Int × Int := if h : ∃ r, Ev (fun k => cal_book_walk.f k l 0 n 0 false) r then Classical.choose h else (0, 0)
theorem walkOf_ev (l : List CC) (hl : l.length ≤ 1000000000000000000) (hls : ∀ c ∈ l, Small c.f1) (n : CN) (hn : Small n) : Ev (fun k => cal_book_walk.f k l 0 n 0 false) (walkOf l n) := by
  obtain ⟨r, h, _⟩ := walk_tot l hl hls 256 0 (by omega) (by omega) (by omega) n 0 false (by omega) (by omega) hn
  have hx : ∃ r, Ev (fun k => cal_book_walk.f k l 0 n 0 false) r := ⟨r, h⟩
  unfold walkOf
  rw [dif_pos hx]
  exact Classical.choose_spec hx
noncomputable def openOf (l : List CC) (day : Int) : List CN → Int
  | [] => 0
  | n :: ns => if 24 < l.length then 3 else if (l.all (fun c => rightN 16 c.f1) && rightN 16 n) = false then 1 else if rightB day = false then 6 else if (walkOf l n).1 = 0 then openOf l day ns else (walkOf l n).1
theorem rok_ev (l : List CC) (hls : ∀ c ∈ l, Small c.f1) : ∃ K, ∀ k, K ≤ k → cal_open.rok k l = true ∧ l.any (cal_open.rp k) = !(l.all fun c => rightN 16 c.f1) := by
  induction l with
  | nil => exact ⟨0, fun k _ => ⟨rfl, rfl⟩⟩
  | cons c l ih =>
    obtain ⟨K, h⟩ := ih (fun d hd => hls d (List.mem_cons_of_mem _ hd))
    obtain ⟨L, g⟩ := Right_is c.f1 (hls c List.mem_cons_self)
    refine ⟨max K L, fun k hk => ?_⟩
    obtain ⟨h1, h2⟩ := h k (by omega)
    have g1 := g k (by omega)
    dsimp only at g1
    constructor
    · unfold cal_open.rok at h1 ⊢
      rw [List.all_cons, h1, g1]
      rfl
    · rw [List.any_cons, h2, List.all_cons]
      unfold cal_open.rp
      rw [g1]
      cases rightN 16 c.f1 <;> simp
theorem open_ev (l : List CC) (hl : l.length ≤ 1000000000000000000) (hls : ∀ c ∈ l, Small c.f1) (day : Int) (ks : List CN) (hk : ∀ n ∈ ks, Small n) (hkl : ks.length ≤ 1000) : ∀ (d i : Nat), i + d = ks.length → ∃ K, ∀ k j, K ≤ k → K ≤ j → cal_open.l0 k j l day ks (i : Int) = some (openOf l day (ks.drop i)) := by
  intro d
  induction d with
  | zero =>
    intro i hi
    refine ⟨1, fun k j hk hj => ?_⟩
    obtain ⟨j, rfl⟩ : ∃ q, j = q + 1 := ⟨j - 1, by omega⟩
    rw [cal_open.l0.eq_2, if_neg (by omega), List.drop_eq_nil_of_le (by omega)]
    rfl
  | succ d ih =>
    intro i hi
    have hlt : i < ks.length := by omega
    obtain ⟨K, h⟩ := ih (i + 1) (by omega)
    obtain ⟨K2, g⟩ := rok_ev l hls
    have hmem : ks[i] ∈ ks := List.getElem_mem hlt
    obtain ⟨K3, g3⟩ := Right_is ks[i] (hk _ hmem)
    obtain ⟨K4, g4⟩ := walkOf_ev l hl hls ks[i] (hk _ hmem)
    refine ⟨K + K2 + K3 + K4 + 1, fun k j hk hj => ?_⟩
    obtain ⟨j, rfl⟩ : ∃ q, j = q + 1 := ⟨j - 1, by omega⟩
    obtain ⟨a1, a2⟩ := g k (by omega)
    have a3 := g3 k (by omega)
    have a4 := g4 k (by omega)
    dsimp only at a3 a4
    rw [List.drop_eq_getElem_cons hlt, cal_open.l0.eq_2, if_pos (by omega), if_pos (by omega), rdN_at ks i hlt]
    unfold openOf
    by_cases c1 : 24 < l.length
    · rw [if_pos (show (l.length : Int) > 24 by omega), if_pos c1]
    rw [if_neg (show ¬ (l.length : Int) > 24 by omega), if_neg c1, if_pos a1, a2, a3, Option.bind_some, Right_eq, Option.bind_some, a4, Option.bind_some]
    cases hA : (l.all fun c => rightN 16 c.f1) with
    | false => simp
    | true =>
      cases hB : rightN 16 ks[i] with
      | false => simp
      | true =>
        cases hC : rightB day with
        | false => simp
        | true =>
          simp only [Bool.not_true, Bool.and_self, Bool.true_eq_false, Bool.false_eq_true, if_false, if_true]
          by_cases z : (walkOf l ks[i]).1 = 0
          · rw [if_pos z, if_pos z, wrap64_id (x := (i : Int) + 1) (by omega) (by omega)]
            exact h k j (by omega) (by omega)
          · rw [if_neg z, if_neg z]
theorem open_at (l : List CC) (hl : l.length ≤ 1000000000000000000) (hls : ∀ c ∈ l, Small c.f1) (day : Int) (ks : List CN) (hk : ∀ n ∈ ks, Small n) (hkl : ks.length ≤ 1000) : Ev (fun k => cal_open.l0 k k l day ks 0) (openOf l day ks) := by
  obtain ⟨K, h⟩ := open_ev l hl hls day ks hk hkl ks.length 0 (by omega)
  exact ⟨K, fun k hk => by simpa using h k k hk hk⟩
end Go.Proofs.YtpcjbnaggeiaoaaDoor.QCalMoved
