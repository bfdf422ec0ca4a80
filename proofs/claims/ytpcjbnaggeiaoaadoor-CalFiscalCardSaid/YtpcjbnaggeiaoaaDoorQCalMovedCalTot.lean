/- What the calendars' functions come to, in general: whether a node can be; where a walk over the calendars ends; each with enough rounds. No conditions beyond those that each theorem names. -/
import Derived.Test.YtpcjbnaggeiaoaaDoorQCalMovedWeek6
import Derived.Test.YtpcjbnaggeiaoaaDoorQCalMovedXWeek6
namespace Go.Proofs.YtpcjbnaggeiaoaaDoor.QCalMoved
open Go.RowKit Go.Proofs.YtpcjbnaggeiaoaaDoor.PCalMoved Go.Proofs.YtpcjbnaggeiaoaaDoorW.PrintWords Go.Proofs.YtpcjbnaggeiaoaaDoorW.PrintLast Go.Proofs.YtpcjbnaggeiaoaaDoorW.PrintMore Go.Proofs.YtpcjbnaggeiaoaaDoor.MDate Go.Proofs.YtpcjbnaggeiaoaaDoor.MBits
set_option linter.unusedVariables false
set_option linter.unusedSimpArgs false
abbrev CN := S31
abbrev CC := S48
theorem Ev.const {α : Type} {x : Option α} {r : α} (h : x = some r) : Ev (fun _ => x) r := ⟨0, fun _ _ => h⟩
theorem Ev.uniq {α : Type} {g : Nat → Option α} {a b : α} (h : Ev g a) (k : Ev g b) : a = b := by
  obtain ⟨K, h⟩ := h
  obtain ⟨L, k⟩ := k
  exact Option.some.inj ((h (max K L) (Nat.le_max_left _ _)).symm.trans (k (max K L) (Nat.le_max_right _ _)))
/-- A node whose lists are no longer than lists are. -/
inductive Small : CN → Prop
  | mk (n : CN) (h1 : n.f1.length ≤ 1000000000000000000) (h2 : n.f2.length ≤ 1000000000000000000) (hw : ∀ x ∈ n.f1, -9223372036854775808 ≤ x ∧ x ≤ 9223372036854775807) (h3 : ∀ c ∈ n.f2, Small c) (h4 : n.f3.size ≤ 140737488351232) : Small n
theorem Small.len1 {n : CN} (h : Small n) : n.f1.length ≤ 1000000000000000000 := by cases h; assumption
theorem Small.len2 {n : CN} (h : Small n) : n.f2.length ≤ 1000000000000000000 := by cases h; assumption
theorem Small.nums {n : CN} (h : Small n) : ∀ x ∈ n.f1, -9223372036854775808 ≤ x ∧ x ≤ 9223372036854775807 := by cases h; assumption
theorem Small.kids {n : CN} (h : Small n) : ∀ c ∈ n.f2, Small c := by cases h; assumption
theorem Small.name {n : CN} (h : Small n) : n.f3.size ≤ 140737488351232 := by cases h; assumption
theorem rdN_mem (l : List CN) (i : Nat) (h : i < l.length) : rd_T31 l (i : Int) ∈ l := by
  unfold rd_T31
  rw [Int.toNat_natCast, List.getD_eq_getElem?_getD, List.getElem?_eq_getElem h]
  exact List.getElem_mem h
theorem rdN_at (l : List CN) (i : Nat) (h : i < l.length) : rd_T31 l (i : Int) = l[i] := by
  unfold rd_T31
  rw [Int.toNat_natCast, List.getD_eq_getElem?_getD, List.getElem?_eq_getElem h]
  rfl
theorem rdC_at (l : List CC) (i : Nat) (h : i < l.length) : rd_T48 l (i : Int) = l[i] := by
  unfold rd_T48
  rw [Int.toNat_natCast, List.getD_eq_getElem?_getD, List.getElem?_eq_getElem h]
  rfl
/-! ### Whether a node can be -/
def withinB (a lo hi : Int) : Bool := decide (lo ≤ a) && decide (a ≤ hi)
def eitherB (a hi : Int) : Bool := withinB a 1 hi || withinB a (-hi) (-1)
theorem within_eq (a lo hi : Int) : cal_within.f a lo hi = some (withinB a lo hi) := by
  unfold cal_within.f withinB
  by_cases h : a ≥ lo
  · rw [if_pos h, decide_eq_true (show lo ≤ a from h)]; rfl
  · rw [if_neg h, decide_eq_false (show ¬ lo ≤ a by omega)]; rfl
theorem either_eq (a hi : Int) (h : hi = 5 ∨ hi = 31) : cal_either.f a hi = some (eitherB a hi) := by
  unfold cal_either.f eitherB
  rw [within_eq, Option.bind_some, wrap64_id (by omega) (by omega), within_eq]
  cases withinB a 1 hi <;> simp
theorem contains_eq (a : Int) : Ev (fun k => slices_Contains_int64_int64.f k [445, 454, 544] a) (decide (a = 445) || (decide (a = 454) || decide (a = 544))) := by
  refine ⟨5, fun k hk => ?_⟩
  obtain ⟨k, rfl⟩ : ∃ q, k = q + 5 := ⟨k - 5, by omega⟩
  dsimp only
  unfold slices_Contains_int64_int64.f slices_Index_int64_int64.f
  have w1 : wrap64 (0 + 1) = 1 := wrap64_id (by omega) (by omega)
  have w2 : wrap64 (1 + 1) = 2 := wrap64_id (by omega) (by omega)
  have w3 : wrap64 (2 + 1) = 3 := wrap64_id (by omega) (by omega)
  rw [slices_Index_int64_int64.l0.eq_2, if_pos (by decide), if_pos (by decide), if_pos (by decide)]
  by_cases h1 : a = rd [445, 454, 544] 0
  · rw [if_pos h1, h1]; rfl
  rw [if_neg h1, w1, slices_Index_int64_int64.l0.eq_2, if_pos (by decide), if_pos (by decide), if_pos (by decide)]
  by_cases h2 : a = rd [445, 454, 544] 1
  · rw [if_pos h2, h2]; rfl
  rw [if_neg h2, w2, slices_Index_int64_int64.l0.eq_2, if_pos (by decide), if_pos (by decide), if_pos (by decide)]
  by_cases h3 : a = rd [445, 454, 544] 2
  · rw [if_pos h3, h3]; rfl
  rw [if_neg h3, w3, slices_Index_int64_int64.l0.eq_2, if_neg (by decide)]
  have e1 : ¬ a = 445 := h1
  have e2 : ¬ a = 454 := h2
  have e3 : ¬ a = 544 := h3
  simp [e1, e2, e3]
def numsB (n : CN) : Bool :=
  if n.f0 = 1 then decide (n.f1.length = 1) && withinB (rd n.f1 0) 0 127 else
  if n.f0 = 2 then decide (n.f1.length ≤ 64) && n.f1.all cal_every_right.p else
  if n.f0 = 3 then decide (n.f1.length ≤ 64) && n.f1.all cal_every_either.p else
  if n.f0 = 4 then decide (n.f1.length = 2) && (withinB (rd n.f1 0) 0 6 && eitherB (rd n.f1 1) 5) else
  if n.f0 = 5 then decide (n.f1.length = 1) && eitherB (rd n.f1 0) 31 else
  if n.f0 = 6 then decide (n.f1.length = 2) && ((decide (rd n.f1 0 = 445) || (decide (rd n.f1 0 = 454) || decide (rd n.f1 0 = 544))) && withinB (rd n.f1 1) 1 12) else
  decide (n.f1.length = 0)
theorem nums_eq (n : CN) (h : n.f1.length ≤ 1000000000000000000) : Ev (fun k => cal_Node_numbers.f k n.f0 n.f1 n.f2 n.f3) (numsB n) := by
  obtain ⟨K, hc⟩ := contains_eq (rd n.f1 0)
  refine ⟨K, fun k hk => ?_⟩
  replace hc := hc k hk
  dsimp only at hc ⊢
  unfold cal_Node_numbers.f numsB
  by_cases q1 : n.f0 = 1
  · rw [if_pos q1, if_pos q1]
    by_cases l : (n.f1.length : Int) = 1
    · rw [if_pos l, if_pos (by omega), within_eq, Option.bind_some, decide_eq_true (show n.f1.length = 1 by omega)]; rfl
    · rw [if_neg l, decide_eq_false (show ¬ n.f1.length = 1 by omega)]; rfl
  rw [if_neg q1, if_neg q1]
  by_cases q2 : n.f0 = 2
  · rw [if_pos q2, if_pos q2]
    by_cases l : (n.f1.length : Int) ≤ 64
    · rw [if_pos l]
      unfold cal_every_right.f
      rw [if_pos (by omega), Option.bind_some, decide_eq_true (show n.f1.length ≤ 64 by omega)]; rfl
    · rw [if_neg l, decide_eq_false (show ¬ n.f1.length ≤ 64 by omega)]; rfl
  rw [if_neg q2, if_neg q2]
  by_cases q3 : n.f0 = 3
  · rw [if_pos q3, if_pos q3]
    by_cases l : (n.f1.length : Int) ≤ 64
    · rw [if_pos l]
      unfold cal_every_either.f
      rw [if_pos (by omega), Option.bind_some, decide_eq_true (show n.f1.length ≤ 64 by omega)]; rfl
    · rw [if_neg l, decide_eq_false (show ¬ n.f1.length ≤ 64 by omega)]; rfl
  rw [if_neg q3, if_neg q3]
  by_cases q4 : n.f0 = 4
  · rw [if_pos q4, if_pos q4]
    by_cases l : (n.f1.length : Int) = 2
    · rw [if_pos l, if_pos (by omega), within_eq, Option.bind_some, if_pos (show (1 : Int) < n.f1.length by omega), either_eq _ _ (.inl rfl), Option.bind_some, decide_eq_true (show n.f1.length = 2 by omega)]
      cases withinB (rd n.f1 0) 0 6 <;> simp
    · rw [if_neg l, decide_eq_false (show ¬ n.f1.length = 2 by omega)]; rfl
  rw [if_neg q4, if_neg q4]
  by_cases q5 : n.f0 = 5
  · rw [if_pos q5, if_pos q5]
    by_cases l : (n.f1.length : Int) = 1
    · rw [if_pos l, if_pos (by omega), either_eq _ _ (.inr rfl), Option.bind_some, decide_eq_true (show n.f1.length = 1 by omega)]; rfl
    · rw [if_neg l, decide_eq_false (show ¬ n.f1.length = 1 by omega)]; rfl
  rw [if_neg q5, if_neg q5]
  by_cases q6 : n.f0 = 6
  · rw [if_pos q6, if_pos q6]
    by_cases l : (n.f1.length : Int) = 2
    · rw [if_pos l, if_pos (by omega), hc, Option.bind_some, if_pos (show (1 : Int) < n.f1.length by omega), within_eq, Option.bind_some, decide_eq_true (show n.f1.length = 2 by omega)]
      generalize (decide (rd n.f1 0 = 445) || (decide (rd n.f1 0 = 454) || decide (rd n.f1 0 = 544))) = b
      cases b <;> simp
    · rw [if_neg l, decide_eq_false (show ¬ n.f1.length = 2 by omega)]; rfl
  rw [if_neg q6, if_neg q6]
  congr 1
  rw [Bool.eq_iff_iff]
  simp
def kidsB (n : CN) : Bool := if n.f0 = 7 then decide (1 ≤ n.f2.length ∧ n.f2.length ≤ 8) else if n.f0 = 8 then decide (1 ≤ n.f2.length ∧ n.f2.length ≤ 8) else if n.f0 = 9 then decide (n.f2.length = 1) else decide (n.f2.length = 0)
theorem kids_eq (n : CN) : Ev (fun k => cal_Node_kids.f k n.f0 n.f1 n.f2 n.f3) (kidsB n) := by
  refine ⟨1, fun k hk => ?_⟩
  obtain ⟨k, rfl⟩ : ∃ q, k = q + 1 := ⟨k - 1, by omega⟩
  dsimp only
  unfold cal_Node_kids.f kidsB
  have two : (if (n.f2.length : Int) ≥ 1 then some (decide ((n.f2.length : Int) ≤ 8)) else some false) = some (decide (1 ≤ n.f2.length ∧ n.f2.length ≤ 8)) := by
    by_cases c : (n.f2.length : Int) ≥ 1
    · rw [if_pos c]; congr 1; rw [decide_eq_decide]; omega
    · rw [if_neg c]; congr 1; rw [eq_comm, decide_eq_false_iff_not]; omega
  by_cases q7 : n.f0 = 7
  · rw [if_pos q7, if_pos q7, cal_Node_kids.j0.eq_2, if_pos (by rw [q7]; rfl), two]
  rw [if_neg q7, if_neg q7, cal_Node_kids.j0.eq_2]
  by_cases q8 : n.f0 = 8
  · rw [if_pos q8, if_pos (by rw [q8]; rfl), two]
  rw [if_neg q8, if_neg (by simpa using q8)]
  by_cases q9 : n.f0 = 9
  · rw [if_pos q9, if_pos q9]; congr 1; rw [Bool.eq_iff_iff]; simp; omega
  · rw [if_neg q9, if_neg q9]; congr 1; rw [Bool.eq_iff_iff]; simp
def rightN : Nat → CN → Bool
  | 0, _ => false
  | d + 1, n => decide (1 ≤ n.f0 ∧ n.f0 ≤ 10) && (numsB n && (kidsB n && ((decide (n.f3.toList = []) || (decide (n.f0 = 5) || decide (n.f0 = 10))) && n.f2.all (rightN d))))
theorem right_l0 (d : Nat) (ks : List CN) (hk : ks.length ≤ 1000000000000000000) (h : ∀ c ∈ ks, Ev (fun k => cal_Node_right.f k c.f0 c.f1 c.f2 c.f3 (d : Int)) (rightN d c)) (hd : d ≤ 100) :
    ∀ (m i : Nat), i + m = ks.length → Ev (fun k => cal_Node_right.l0 k ((d : Int) + 1) ks (ks.length : Int) (i : Int)) ((ks.drop i).all (rightN d)) := by
  intro m
  induction m with
  | zero =>
    intro i hi
    refine Ev.step (fun k => by rw [cal_Node_right.l0.eq_2, if_neg (by omega)]) ?_
    rw [List.drop_eq_nil_of_le (by omega)]
    exact Ev.now true
  | succ m ih =>
    intro i hi
    have hlt : i < ks.length := by omega
    have hn := ih (i + 1) (by omega)
    refine Ev.step (fun k => by rw [cal_Node_right.l0.eq_2, if_pos (by omega), if_pos (by omega), if_pos (by omega), wrap64_id (x := (d : Int) + 1 - 1) (by omega) (by omega), show (d : Int) + 1 - 1 = d by omega, wrap64_id (x := (i : Int) + 1) (by omega) (by omega)]) ?_
    refine Ev.bind (h _ (rdN_mem ks i hlt)) ?_
    rw [List.drop_eq_getElem_cons hlt, List.all_cons, rdN_at ks i hlt]
    cases rightN d ks[i] with
    | true => simpa using hn
    | false => exact Ev.now false
theorem right_eq (d : Nat) (hd : d ≤ 100) : ∀ (n : CN), Small n → Ev (fun k => cal_Node_right.f k n.f0 n.f1 n.f2 n.f3 (d : Int)) (rightN d n) := by
  induction d with
  | zero =>
    intro n hs
    have fin : ∀ x, Ev (fun k => cal_Node_right.j0 k (0 : Nat) x n.f0 n.f1 n.f2 n.f3) (rightN 0 n) := fun x => Ev.step (fun k => by rw [cal_Node_right.j0.eq_2, if_pos (show ((0 : Nat) : Int) = 0 from rfl)]) (Ev.step (fun k => by rw [cal_Node_right.j1.eq_2, if_pos rfl]) (Ev.now false))
    refine Ev.step (fun k => by rw [cal_Node_right.f.eq_2]) ?_
    by_cases q : n.f0 = 5
    · simp only [if_pos q]; exact fin _
    · simp only [if_neg q]; exact fin _
  | succ d ih =>
    intro n hs
    have hl := right_l0 d n.f2 hs.len2 (fun c hc => ih (by omega) c (hs.kids c hc)) (by omega) n.f2.length 0 (by omega)
    have no : Ev (fun k => cal_Node_right.j1 k ((d + 1 : Nat) : Int) true n.f0 n.f1 n.f2 n.f3) false := Ev.step (fun k => by rw [cal_Node_right.j1.eq_2, if_pos rfl]) (Ev.now false)
    have yes : Ev (fun k => cal_Node_right.j1 k ((d + 1 : Nat) : Int) false n.f0 n.f1 n.f2 n.f3) (n.f2.all (rightN d)) := Ev.step (fun k => by rw [cal_Node_right.j1.eq_2, if_neg (by decide)]) (by simpa using hl)
    have fin : ∀ x : Bool, x = (decide (n.f0 = 5) || decide (n.f0 = 10)) → Ev (fun k => cal_Node_right.j0 k ((d + 1 : Nat) : Int) x n.f0 n.f1 n.f2 n.f3) (rightN (d + 1) n) := by
      intro x hx
      refine Ev.step (fun k => by rw [cal_Node_right.j0.eq_2, if_neg (by omega)]) ?_
      unfold rightN
      by_cases o1 : n.f0 < 1
      · simp only [if_pos o1]; rw [decide_eq_false (show ¬ (1 ≤ n.f0 ∧ n.f0 ≤ 10) by omega)]; exact no
      simp only [if_neg o1]
      by_cases o2 : n.f0 > 10
      · simp only [if_pos o2]; rw [decide_eq_false (show ¬ (1 ≤ n.f0 ∧ n.f0 ≤ 10) by omega)]; exact no
      simp only [if_neg o2]
      rw [decide_eq_true (show 1 ≤ n.f0 ∧ n.f0 ≤ 10 by omega), Bool.true_and]
      refine Ev.bind (nums_eq n hs.len1) ?_
      cases numsB n with
      | false => simpa using no
      | true =>
        simp only [if_true, Bool.true_and]
        refine Ev.bind (kids_eq n) ?_
        cases kidsB n with
        | false => simpa using no
        | true =>
          simp only [if_true, Bool.true_and]
          by_cases e : n.f3.toList = []
          · simp only [if_pos e]
            rw [decide_eq_true e, Bool.true_or, Bool.true_and]
            exact yes
          · simp only [if_neg e]
            rw [decide_eq_false e, Bool.false_or, ← hx]
            cases x with
            | true => simpa using yes
            | false => simpa using no
    refine Ev.step (fun k => by rw [cal_Node_right.f.eq_2]) ?_
    by_cases q : n.f0 = 5
    · simp only [if_pos q]; exact fin _ (by rw [decide_eq_true q]; rfl)
    · simp only [if_neg q]; exact fin _ (by rw [decide_eq_false q, Bool.false_or]; rfl)
theorem Right_is (n : CN) (h : Small n) : Ev (fun k => cal_Right.f k n.f0 n.f1 n.f2 n.f3) (rightN 16 n) := by
  unfold cal_Right.f
  exact Ev.bind (right_eq 16 (by omega) n h) (Ev.now _)
end Go.Proofs.YtpcjbnaggeiaoaaDoor.QCalMoved
