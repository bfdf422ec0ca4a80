/- The insertion sort keeps what is alike in its order. No conditions beyond those that each theorem names. -/
import Derived.Test.YtgdnljhndjlefaaQNeedFitsNeedSym
import Derived.Test.YtgdnljhndjlefaaQNeedFitsNeedStable
namespace Go.Proofs.Ytgdnljhndjlefaa.QNeedFits
open Go.RowKit Go.Proofs.Ytgdnljhndjlefaa.PNeedFits Go.Proofs.YtgdnljhndjlefaaW.PrintWords Go.Proofs.YtgdnljhndjlefaaW.PrintLast Go.Proofs.YtgdnljhndjlefaaW.PrintMore Go.Proofs.Ytgdnljhndjlefaa.MMaps
open Go.Sort (swp insInner insOuter insertionSort size_swp swp_other swp_left swp_right)
set_option linter.unusedVariables false
set_option linter.unusedSimpArgs false
set_option maxRecDepth 100000
def ltB (x y : Tg) : Bool := ltN x.1 y.1 || (!ltN y.1 x.1 && decide (x.2 < y.2))
def ltF (x y : Tg) : Bool := ltN x.1 y.1
theorem ltB_iff {x y : Tg} : ltB x y = true ↔ ltT x y := by
  unfold ltB ltT
  rw [Bool.or_eq_true, Bool.and_eq_true, Bool.not_eq_true', decide_eq_true_eq]
theorem ltF_eq {x y : Tg} (h : y.2 < x.2) : ltF x y = ltB x y := by
  unfold ltF ltB
  rw [decide_eq_false (by omega), Bool.and_false, Bool.or_false]
theorem ltT_or {x y z : Tg} (h : ltT x z) : ltT x y ∨ ltT y z := by
  cases e1 : ltN x.1 y.1 with
  | true => exact .inl (.inl e1)
  | false =>
    cases e2 : ltN y.1 z.1 with
    | true => exact .inr (.inl e2)
    | false =>
      rcases h with h | ⟨h, ht⟩
      · rw [swoN.ntrans _ _ _ e1 e2] at h; cases h
      · by_cases q : x.2 < y.2
        · exact .inl (.inr ⟨swoN.ntrans _ _ _ e2 h, q⟩)
        · exact .inr (.inr ⟨swoN.ntrans _ _ _ h e1, by omega⟩)
theorem swoB : Go.Sort.SWO ltB where
  irrefl x := by
    cases h : ltB x x with
    | false => rfl
    | true => exact absurd (ltB_iff.mp h) (ltT_irrefl x)
  trans x y z h1 h2 := ltB_iff.mpr (ltT_trans (ltB_iff.mp h1) (ltB_iff.mp h2))
  ntrans x y z h1 h2 := by
    cases h : ltB x z with
    | false => rfl
    | true =>
      rcases ltT_or (y := y) (ltB_iff.mp h) with q | q
      · rw [ltB_iff.mpr q] at h1; cases h1
      · rw [ltB_iff.mpr q] at h2; cases h2
theorem map_get (T : Array Tg) (j : Nat) (h : j < T.size) : (T.map Prod.fst)[j]! = T[j]!.1 := by
  rw [getElem!_pos _ j (by simpa using h), getElem!_pos T j h, Array.getElem_map]
theorem map_swp (T : Array Tg) (i j : Nat) (hi : i < T.size) (hj : j < T.size) : (swp T i j).map Prod.fst = swp (T.map Prod.fst) i j := by
  unfold swp
  rw [map_get T j hj, map_get T i hi]
  simp
theorem inner_map (a : Nat) : ∀ (j : Nat) (T : Array Tg), j < T.size → (insInner ltF a j T).map Prod.fst = insInner ltN a j (T.map Prod.fst)
  | 0, T, _ => by simp [insInner]
  | j + 1, T, h => by
    unfold insInner
    rw [map_get T (j + 1) h, map_get T j (by omega)]
    have e : ltF T[j + 1]! T[j]! = ltN T[j + 1]!.1 T[j]!.1 := rfl
    rw [e]
    split
    · rw [inner_map a j _ (by rw [size_swp]; omega), map_swp T (j + 1) j h (by omega)]
    · rfl
theorem inner_size (lt : Tg → Tg → Bool) (a : Nat) : ∀ (j : Nat) (T : Array Tg), (insInner lt a j T).size = T.size
  | 0, T => by simp [insInner]
  | j + 1, T => by
    unfold insInner
    split
    · rw [inner_size lt a j, size_swp]
    · rfl
theorem outer_map (a b : Nat) : ∀ (n i : Nat) (T : Array Tg), b - i = n → b ≤ T.size → (insOuter ltF a b i T).map Prod.fst = insOuter ltN a b i (T.map Prod.fst)
  | 0, i, T, hn, hb => by
    rw [insOuter, if_neg (by omega)]
    rw [insOuter, if_neg (by omega)]
  | n + 1, i, T, hn, hb => by
    rw [insOuter, if_pos (by omega)]
    conv => rhs; rw [insOuter, if_pos (by omega)]
    rw [outer_map a b n (i + 1) _ (by omega) (by rw [inner_size]; exact hb), inner_map a i T (by omega)]
/-- What stands behind is as it was; what stands ahead was there. -/
theorem inner_at (lt : Tg → Tg → Bool) (a : Nat) : ∀ (j : Nat) (T : Array Tg), j < T.size → a ≤ j → (∀ p, j < p → (insInner lt a j T)[p]! = T[p]!) ∧ (∀ p, a ≤ p → p ≤ j → ∃ q, a ≤ q ∧ q ≤ j ∧ (insInner lt a j T)[p]! = T[q]!)
  | 0, T, _, _ => ⟨fun p _ => by simp [insInner], fun p h1 h2 => ⟨p, h1, h2, by simp [insInner]⟩⟩
  | j + 1, T, h, ha => by
    unfold insInner
    split
    · rename_i hc
      simp only [Bool.and_eq_true, decide_eq_true_eq] at hc
      obtain ⟨h1, h2⟩ := inner_at lt a j (swp T (j + 1) j) (by rw [size_swp]; omega) (by omega)
      refine ⟨fun p hp => by rw [h1 p (by omega), swp_other T (j + 1) j p (by omega) (by omega)], fun p hp1 hp2 => ?_⟩
      by_cases e : p = j + 1
      · subst e
        exact ⟨j, by omega, by omega, by rw [h1 (j + 1) (by omega), swp_left T (j + 1) j h (by omega)]⟩
      · obtain ⟨q, q1, q2, q3⟩ := h2 p hp1 (by omega)
        by_cases e2 : q = j
        · subst e2
          exact ⟨q + 1, by omega, by omega, by rw [q3, swp_right T (q + 1) q (by omega)]⟩
        · exact ⟨q, q1, by omega, by rw [q3, swp_other T (j + 1) j q (by omega) e2]⟩
    · exact ⟨fun _ _ => rfl, fun p h1 h2 => ⟨p, h1, h2, rfl⟩⟩
/-- One that came later is put in as the order without ties has it. -/
theorem inner_eq (a : Nat) : ∀ (j : Nat) (T : Array Tg), j < T.size → (∀ p, a ≤ p → p < j → T[p]!.2 < T[j]!.2) → insInner ltF a j T = insInner ltB a j T
  | 0, T, _, _ => by simp [insInner]
  | j + 1, T, h, hp => by
    unfold insInner
    by_cases hc : j + 1 > a
    · rw [ltF_eq (hp j (by omega) (by omega))]
      split
      · refine inner_eq a j _ (by rw [size_swp]; omega) (fun p h1 h2 => ?_)
        rw [swp_other T (j + 1) j p (by omega) (by omega), swp_right T (j + 1) j (by omega)]
        exact hp p h1 (by omega)
      · rfl
    · rw [decide_eq_false hc]; simp
/-- Tags rise where nothing was put in yet. -/
def Rises (T : Array Tg) (a b i : Nat) : Prop := ∀ q, i ≤ q → q < b → ∀ p, a ≤ p → p < q → T[p]!.2 < T[q]!.2
theorem outer_eq (a b : Nat) : ∀ (n i : Nat) (T : Array Tg), b - i = n → a < i → b ≤ T.size → Rises T a b i → insOuter ltF a b i T = insOuter ltB a b i T
  | 0, i, T, hn, _, _, _ => by
    rw [insOuter, if_neg (by omega)]
    rw [insOuter, if_neg (by omega)]
  | n + 1, i, T, hn, ha, hb, hr => by
    rw [insOuter, if_pos (by omega)]
    conv => rhs; rw [insOuter, if_pos (by omega)]
    have e := inner_eq a i T (by omega) (fun p h1 h2 => hr i (Nat.le_refl _) (by omega) p h1 h2)
    rw [← e]
    obtain ⟨k1, k2⟩ := inner_at ltF a i T (by omega) (by omega)
    refine outer_eq a b n (i + 1) _ (by omega) (by omega) (by rw [inner_size]; exact hb) (fun q hq1 hq2 p hp1 hp2 => ?_)
    rw [k1 q (by omega)]
    by_cases hpi : p ≤ i
    · obtain ⟨p', h1, h2, h3⟩ := k2 p hp1 hpi
      rw [h3]
      exact hr q (by omega) hq2 p' h1 (by omega)
    · rw [k1 p (by omega)]
      exact hr q (by omega) hq2 p hp1 hp2
theorem ex_drop (V : Array Tg) (a b : Nat) : (V.extract a b).toList = (V.toList.drop a).take (b - a) := by
  rw [Array.toList_extract, List.extract_eq_take_drop]
/-- A run whose tags rise, sorted. -/
theorem ins_run (D X R : List Tg) (hX : X.Pairwise fun x y => x.2 < y.2) : ∃ Z, Z.Perm X ∧ Asc Z ∧ insL (un (D ++ (X ++ R))) D.length (D.length + X.length) = un (D ++ (Z ++ R)) := by
  obtain ⟨T, hT⟩ : ∃ T, (D ++ (X ++ R)).toArray = T := ⟨_, rfl⟩
  have hTl : T.toList = D ++ (X ++ R) := by rw [← hT]
  have hTs : T.size = D.length + X.length + R.length := by rw [← hT]; simp; omega
  obtain ⟨a, ha⟩ : ∃ a, D.length = a := ⟨_, rfl⟩
  obtain ⟨b, hb⟩ : ∃ b, D.length + X.length = b := ⟨_, rfl⟩
  have hin : ∀ p (h1 : a ≤ p) (h2 : p < b), T[p]! = X[p - a]'(by omega) := fun p h1 h2 => by
    rw [getElem!_pos T p (by omega), ← Array.getElem_toList]
    simp only [hTl]
    rw [List.getElem_append_right (by omega), List.getElem_append_left (by omega)]
    simp only [ha]
  have hri : Rises T a b (a + 1) := fun q hq1 hq2 p hp1 hp2 => by
    rw [hin p hp1 (by omega), hin q (by omega) hq2]
    exact List.pairwise_iff_getElem.mp hX _ _ (by omega) (by omega) (by omega)
  have e1 : insertionSort ltF T a b = insertionSort ltB T a b := outer_eq a b (b - (a + 1)) (a + 1) T rfl (by omega) (by omega) hri
  have e2 : (insertionSort ltF T a b).map Prod.fst = insertionSort ltN (T.map Prod.fst) a b := outer_map a b (b - (a + 1)) (a + 1) T rfl (by omega)
  have hmap : T.map Prod.fst = (un (D ++ (X ++ R))).toArray := by rw [← hT]; simp [un]
  obtain ⟨⟨s1, s2, s3⟩, s4⟩ := Go.Sort.insertionSort_holds swoB T a b (by omega) (by omega)
  rw [e1] at e2
  generalize insertionSort ltB T a b = V at *
  have hVs : V.size = D.length + X.length + R.length := by rw [s1, hTs]
  obtain ⟨Z, hZ⟩ : ∃ Z, (V.toList.drop a).take X.length = Z := ⟨_, rfl⟩
  have hVl : V.toList.length = D.length + X.length + R.length := by rw [Array.length_toList, hVs]
  have out : ∀ p, (p < a ∨ b ≤ p) → V.toList[p]? = (D ++ (X ++ R))[p]? := fun p hp => by
    rcases Nat.lt_or_ge p V.size with h | h
    · have := s2 p hp
      rw [getElem!_pos V p h, getElem!_pos T p (by omega)] at this
      rw [← hTl, List.getElem?_eq_getElem (by rw [hVl]; omega), List.getElem?_eq_getElem (by rw [Array.length_toList]; omega), Array.getElem_toList, Array.getElem_toList, this]
    · rw [List.getElem?_eq_none (by rw [hVl]; omega), List.getElem?_eq_none (by simp; omega)]
  have hZl : Z.length = X.length := by rw [← hZ, List.length_take, List.length_drop, hVl]; omega
  have hV : V.toList = D ++ (Z ++ R) := by
    apply List.ext_getElem?
    intro p
    by_cases h1 : p < a
    · rw [out p (.inl h1), List.getElem?_append_left (by omega), List.getElem?_append_left (by omega)]
    · by_cases h2 : p < b
      · rw [List.getElem?_append_right (by omega), List.getElem?_append_left (by omega), ← hZ, List.getElem?_take, if_pos (by omega), List.getElem?_drop, show a + (p - D.length) = p by omega]
      · rw [out p (.inr (by omega)), List.getElem?_append_right (by omega), List.getElem?_append_right (by omega), List.getElem?_append_right (by omega), List.getElem?_append_right (by omega), hZl]
  have hperm : Z.Perm X := by
    have q1 : (V.extract a b).toList = Z := by
      rw [ex_drop, ← hZ, show b - a = X.length by omega]
    have q2 : (T.extract a b).toList = X := by
      rw [ex_drop, hTl, show b - a = X.length by omega, ← ha, List.drop_left, List.take_left]
    rw [q1, q2] at s3
    exact s3
  have hne : Z.Pairwise (fun (x y : Tg) => x.2 ≠ y.2) := (hperm.pairwise_iff (fun {x y : Tg} (q : x.2 ≠ y.2) => q.symm)).mpr (List.Pairwise.imp (fun {x y : Tg} (q : x.2 < y.2) => Nat.ne_of_lt q) hX)
  refine ⟨Z, hperm, ?_, ?_⟩
  · refine List.pairwise_iff_getElem.mpr (fun i j hi hj hij => ?_)
    have hz : ∀ k (hk : k < Z.length), V[a + k]! = Z[k] := fun k hk => by
      rw [getElem!_pos V (a + k) (by omega), ← Array.getElem_toList]
      simp only [hV]
      rw [List.getElem_append_right (by omega), List.getElem_append_left (by omega)]
      congr 1
      omega
    have h := s4 (a + i) (a + j) (by omega) (by omega) (by omega)
    rw [hz i hi, hz j hj] at h
    have hn := List.pairwise_iff_getElem.mp hne i j hi hj hij
    have no : ¬ ltT Z[j] Z[i] := fun q => by rw [ltB_iff.mpr q] at h; cases h
    rcases Nat.lt_or_ge Z[i].2 Z[j].2 with q | q
    · exact (ltT_total q).resolve_right no
    · exact (ltT_total (Nat.lt_of_le_of_ne q (Ne.symm hn))).resolve_left no
  · unfold insL
    rw [← hb, ← ha] at e2
    rw [← hmap, ← e2]
    rw [Array.toList_map, hV]
end Go.Proofs.Ytgdnljhndjlefaa.QNeedFits

/- The library's stable sort, at any length. No conditions beyond those that each theorem names. -/
namespace Go.Proofs.Ytgdnljhndjlefaa.QNeedFits
open Go.RowKit Go.Proofs.Ytgdnljhndjlefaa.PNeedFits Go.Proofs.YtgdnljhndjlefaaW.PrintWords Go.Proofs.YtgdnljhndjlefaaW.PrintLast Go.Proofs.YtgdnljhndjlefaaW.PrintMore Go.Proofs.Ytgdnljhndjlefaa.MMaps
set_option linter.unusedVariables false
set_option linter.unusedSimpArgs false
set_option maxRecDepth 100000
/-- A run that was put in order. -/
structure Run (X X0 : List Tg) : Prop where
  perm : X.Perm X0
  asc : Asc X
/-- Full blocks, each in order. -/
inductive Full (bs : Nat) : List Tg → List Tg → Prop
  | nil : Full bs [] []
  | snoc {D D0 X X0 : List Tg} : Full bs D D0 → X.length = bs → Run X X0 → Full bs (D ++ X) (D0 ++ X0)
/-- Blocks, each in order; the last one may be shorter. -/
inductive Blk (bs : Nat) : List Tg → List Tg → Prop
  | nil : Blk bs [] []
  | last {X X0 : List Tg} : X.length ≤ bs → Run X X0 → Blk bs X X0
  | cons {X X0 R R0 : List Tg} : X.length = bs → Run X X0 → Blk bs R R0 → Blk bs (X ++ R) (X0 ++ R0)
theorem Full.len {bs : Nat} {D D0 : List Tg} (h : Full bs D D0) : D.length = D0.length := by
  induction h with
  | nil => rfl
  | snoc h1 h2 h3 ih => rw [List.length_append, List.length_append, ih, h3.perm.length_eq]
theorem Blk.len {bs : Nat} {D D0 : List Tg} (h : Blk bs D D0) : D.length = D0.length := by
  induction h with
  | nil => rfl
  | last h1 h2 => exact h2.perm.length_eq
  | cons h1 h2 h3 ih => rw [List.length_append, List.length_append, ih, h2.perm.length_eq]
theorem Full.blk {bs : Nat} {D D0 : List Tg} (h : Full bs D D0) : ∀ {R R0 : List Tg}, Blk bs R R0 → Blk bs (D ++ R) (D0 ++ R0) := by
  induction h with
  | nil => exact fun h => h
  | snoc h1 h2 h3 ih => intro R R0 hR; rw [List.append_assoc, List.append_assoc]; exact ih (.cons h2 h3 hR)
theorem Blk.one {bs : Nat} {R R0 : List Tg} (h : Blk bs R R0) (hl : R.length ≤ bs) (hb : 0 < bs) : Run R R0 := by
  cases h with
  | nil => exact ⟨List.Perm.refl _, List.Pairwise.nil⟩
  | last h1 h2 => exact h2
  | @cons X X0 R1 R10 h1 h2 h3 =>
    rw [List.length_append] at hl
    have e : R1 = [] := List.length_eq_zero_iff.mp (by omega)
    have e0 : R10 = [] := List.length_eq_zero_iff.mp (by rw [← h3.len, e]; rfl)
    rw [e, e0, List.append_nil, List.append_nil]
    exact h2
theorem Blk.first {bs : Nat} {R R0 : List Tg} (h : Blk bs R R0) (hl : bs < R.length) : ∃ X X0 R1 R10, R = X ++ R1 ∧ R0 = X0 ++ R10 ∧ X.length = bs ∧ Run X X0 ∧ Blk bs R1 R10 := by
  cases h with
  | nil => simp at hl
  | last h1 h2 => omega
  | @cons X X0 R1 R10 h1 h2 h3 => exact ⟨X, X0, R1, R10, rfl, rfl, h1, h2, h3⟩
theorem Blk.full {bs : Nat} {R R0 : List Tg} (h : Blk bs R R0) (hl : bs ≤ R.length) (hb : 0 < bs) : ∃ X X0 R1 R10, R = X ++ R1 ∧ R0 = X0 ++ R10 ∧ X.length = bs ∧ Run X X0 ∧ Blk bs R1 R10 := by
  rcases Nat.lt_or_ge bs R.length with q | q
  · exact h.first q
  · exact ⟨R, R0, [], [], by simp, by simp, by omega, h.one q hb, .nil⟩
theorem Asked.of {D0 X X0 Y Y0 R0 : List Tg} (hX : Run X X0) (hY : Run Y Y0) (h : (D0 ++ (X0 ++ (Y0 ++ R0))).Pairwise fun x y => x.2 < y.2) (hx : 0 < X.length) (hy : 0 < Y.length) : Asked X Y :=
  ⟨hx, hy, hX.asc, hY.asc, fun x hx y hy => by
    have h1 := (List.pairwise_append.mp h).2.1
    have h2 := (List.pairwise_append.mp h1).2.2
    exact h2 x (hX.perm.mem_iff.mp hx) y (List.mem_append_left _ (hY.perm.mem_iff.mp hy))⟩
theorem Merged.run {X X0 Y Y0 Z : List Tg} (h : Merged X Y Z) (hX : Run X X0) (hY : Run Y Y0) : Run Z (X0 ++ Y0) := ⟨h.perm.trans (hX.perm.append hY.perm), h.asc⟩
set_option maxHeartbeats 32000000 in
theorem stableAll.calls (g cap n : Nat) (T0 : List Tg) (w : World) (h : RowAt w g cap (un T0)) (ht : T0.Pairwise fun x y => x.2 < y.2) (hn : T0.length = n) (hlen : n ≤ 100000) :
    Calls Try.prog 56 #[.slice (some ⟨g, 0, none⟩) n cap, .int .i64 n, .func (.func 42) #[] #[]] w fun e w' => e = .returned (.tuple #[]) ∧ ∃ T, Run T T0 ∧ RowAt w' g cap (un T) ∧ w.grownBy w' (some g) := by
  have HR := Aside0.mk h
  have HT := Aside0.mk ht
  have hins : ∀ (a b : Nat) (D X R : List Tg) (W : World), RowAt W g cap (un (D ++ (X ++ R))) → D.length = a → a + X.length = b → (D ++ (X ++ R)).length = n → (X.Pairwise fun x y => x.2 < y.2) → Calls Try.prog 73 #[.slice (some ⟨g, 0, none⟩) n cap, .int .i64 a, .int .i64 b, .func (.func 42) #[] #[]] W fun e w' => e = .returned (.tuple #[]) ∧ ∃ Z, Run Z X ∧ RowAt w' g cap (un (D ++ (Z ++ R))) ∧ W.grownBy w' (some g) := fun a b D X R W hW ha hb hnn hX => by
    obtain ⟨Z, z1, z2, z3⟩ := ins_run D X R hX
    have hl : (un (D ++ (X ++ R))).length = n := by rw [← hnn]; simp [un]
    have hs : D.length + X.length + R.length = n := by rw [← hnn]; simp; omega
    have := ins.calls g cap a b (un (D ++ (X ++ R))) W hW (by omega) (by rw [hl]; omega) (by omega)
    rw [hl] at this
    refine this.mono ?_
    rintro e w' ⟨he, h1, h2⟩
    rw [show a = D.length from ha.symm, show b = D.length + X.length by omega, z3] at h1
    exact ⟨he, Z, ⟨z1, z2⟩, h1, h2⟩
  have HI := Aside0.mk hins
  clear h ht hins
  go_enter Try.func56, Try.ntmps56
  go_wp2
  go_loopg [7, 8] n (fun gg v7 v8 wr => ∃ (a b : Nat) (D D0 R : List Tg), v7 = .int .i64 a ∧ v8 = .int .i64 b ∧ a + 20 = b ∧ a ≤ n ∧ n - a ≤ gg ∧ D.length = a ∧ a + R.length = n ∧ Aside0 (Full 20 D D0) ∧ Aside0 (T0 = D0 ++ R) ∧ Aside0 (RowAt wr g cap (un (D ++ R))) ∧ Aside0 (w.grownBy wr (some g)))
  case atStart => exact ⟨0, 20, [], [], T0, rfl, rfl, rfl, Nat.zero_le _, by omega, rfl, by omega, ⟨.nil⟩, ⟨rfl⟩, HR, ⟨same_grown⟩⟩
  case round =>
    obtain ⟨a, b, D, D0, R, rfl, rfl, hab, han, hg, hD, hR, HF, HE, HW, HG⟩ := hrel
    by_cases hbn : b ≤ n
    · have b2 : decide ((b : Int) ≤ (n : Int)) = true := decide_eq_true (by omega)
      have hX : R.take 20 ++ R.drop 20 = R := List.take_append_drop 20 R
      have l1 : (R.take 20).length = 20 := by rw [List.length_take]; omega
      have l2 : (R.drop 20).length = R.length - 20 := List.length_drop
      generalize R.take 20 = X at *
      generalize R.drop 20 = R' at *
      have hTX : (D0 ++ (X ++ R')).Pairwise fun x y => x.2 < y.2 := by rw [hX, ← HE.out]; exact HT.out
      have hXp : X.Pairwise fun x y => x.2 < y.2 := (List.pairwise_append.mp (List.pairwise_append.mp hTX).2.1).1
      have hc := HI.out a b D X R' _ (by rw [hX]; exact HW.out) hD (by omega) (by simp; omega) hXp
      have HX := Aside0.mk hX
      clear hX hTX hXp HW
      go_wp2_with (go_at_call 73; (with_reducible refine hc.mono ?_); rintro e w1 ⟨rfl, Z, z1, z2, z3⟩; have HZ := Aside0.mk z1; have HZ2 := Aside0.mk z2; have HZ3 := Aside0.mk z3; clear z1 z2 z3 hc)
      go_roundg (n - b)
      case measure => omega
      case rel =>
        have zl := HZ.out.perm.length_eq
        exact ⟨b, b + 20, D ++ Z, D0 ++ X, R', by first | rfl | (congr 1; omega), by first | rfl | go_num | (congr 1; omega), rfl, hbn, Nat.le_refl _, by simp; omega, by omega, ⟨HF.out.snoc (by omega) HZ.out⟩, ⟨by rw [HE.out, ← HX.out]; simp⟩, ⟨by simpa using HZ2.out⟩, ⟨HG.out.andThen (row' := some g) HZ3.out (fun j hj => .inr hj)⟩⟩
    · have b2 : decide ((b : Int) ≤ (n : Int)) = false := decide_eq_false (by omega)
      have hTX : (D0 ++ R).Pairwise fun x y => x.2 < y.2 := by rw [← HE.out]; exact HT.out
      have hXp : R.Pairwise fun x y => x.2 < y.2 := (List.pairwise_append.mp hTX).2.1
      have hc := HI.out a n D R [] _ (by simpa using HW.out) hD (by omega) (by simp; omega) hXp
      have HAB := Aside0.mk (show a + 20 = b ∧ ¬ b ≤ n from ⟨hab, hbn⟩)
      clear hTX hXp HW
      go_wp2_with (go_at_call 73; (with_reducible refine hc.mono ?_); rintro e w1 ⟨rfl, Z, z1, z2, z3⟩; have HZ := Aside0.mk z1; have HZ2 := Aside0.mk z2; have HZ3 := Aside0.mk z3; clear z1 z2 z3 hc)
      have HB0 := Aside0.mk (show Blk 20 (D ++ Z) T0 by rw [HE.out]; exact HF.out.blk (.last (by have := HZ.out.perm.length_eq; have := HAB.out; omega) HZ.out))
      have HR1 := Aside0.mk (show RowAt w1 g cap (un (D ++ Z)) by simpa using HZ2.out)
      have HG1 := Aside0.mk (HG.out.andThen (row' := some g) HZ3.out (fun j hj => .inr hj))
      have HTl := Aside0.mk hn
      clear hab hbn hg han hD hR HF HE HG HZ HZ2 HZ3 HAB HI
      go_loopg [6] n (fun gg v6 wr => ∃ (bs : Nat) (T : List Tg), v6 = .int .i64 bs ∧ 20 ≤ bs ∧ bs ≤ 200100 ∧ n - bs ≤ gg ∧ Aside0 (Blk bs T T0) ∧ Aside0 (RowAt wr g cap (un T)) ∧ Aside0 (w.grownBy wr (some g)))
      case atStart => exact ⟨20, D ++ Z, rfl, Nat.le_refl _, by omega, by omega, HB0, HR1, HG1⟩
      case round =>
        clear HB0 HR1 HG1
        rename World => wr
        obtain ⟨bs, T, rfl, hb20, hbb, hg, HB, HW, HG⟩ := hrel
        by_cases hlt : bs < n
        · have b3 : decide ((bs : Int) < (n : Int)) = true := decide_eq_true (by omega)
          have HO := Aside0.mk (show n - bs ≤ gk ∧ bs < n ∧ 20 ≤ bs from ⟨hg, hlt, hb20⟩)
          have HT1 := Aside0.mk (show T.length = n by rw [HB.out.len]; exact HTl.out)
          clear hg
          go_wp2
          go_loopg [7, 8] n (fun gg v7 v8 wq => ∃ (a b : Nat) (D D0 R R0 : List Tg), v7 = .int .i64 a ∧ v8 = .int .i64 b ∧ a + 2 * bs = b ∧ a ≤ n ∧ n - a ≤ gg ∧ D.length = a ∧ a + R.length = n ∧ Aside0 (Full (2 * bs) D D0) ∧ Aside0 (Blk bs R R0) ∧ Aside0 (T0 = D0 ++ R0) ∧ Aside0 (RowAt wq g cap (un (D ++ R))) ∧ Aside0 (w.grownBy wq (some g)))
          case atStart => exact ⟨0, 2 * bs, [], [], T, T0, rfl, by first | rfl | go_num | (congr 1; omega), by omega, Nat.zero_le _, by omega, rfl, by have := HT1.out; omega, ⟨.nil⟩, HB, ⟨rfl⟩, HW, HG⟩
          case round =>
            clear HB HW HG HT1
            rename World => wq
            obtain ⟨a, b, D, D0, R, R0, rfl, rfl, hab, han, hg, hD, hR, HF, HB, HE, HW, HG⟩ := hrel
            by_cases hbn : b ≤ n
            · have b2 : decide ((b : Int) ≤ (n : Int)) = true := decide_eq_true (by omega)
              obtain ⟨X, X0, R1, R10, rfl, rfl, xl, xr, hB1⟩ := HB.out.full (by omega) (by omega)
              rw [List.length_append] at hR
              obtain ⟨Y, Y0, R2, R20, rfl, rfl, yl, yr, hB2⟩ := hB1.full (by omega) (by omega)
              rw [List.length_append] at hR
              have hA : Asked X Y := Asked.of (D0 := D0) (R0 := R20) xr yr (by rw [← HE.out]; exact HT.out) (by omega) (by omega)
              obtain ⟨m, hm⟩ : ∃ m, a + bs = m := ⟨_, rfl⟩
              have e1 : (a : Int) + (bs : Int) = (m : Int) := by omega
              have hc := symMerge.calls _ g cap a m b n D X Y R2 _ (Nat.le_refl _) hA HW.out hD (by omega) (by omega) (by simp; omega) hlen
              have HX := Aside0.mk (show Run X X0 ∧ Run Y Y0 ∧ Blk bs R2 R20 ∧ X.length = bs ∧ Y.length = bs from ⟨xr, yr, hB2, xl, yl⟩)
              clear xr yr hB1 hB2 hA HB HW
              go_wp2_with (go_at_call 74; (with_reducible refine hc.mono ?_); rintro e w1 ⟨rfl, Z, z1, z2, z3⟩; have HZ := Aside0.mk z1; have HZ2 := Aside0.mk z2; have HZ3 := Aside0.mk z3; clear z1 z2 z3 hc)
              go_roundg (n - b)
              case measure => omega
              case rel =>
                have zl := HZ.out.perm.length_eq
                rw [List.length_append] at zl
                obtain ⟨k1, k2, k3, k4, k5⟩ := HX.out
                exact ⟨b, b + 2 * bs, D ++ Z, D0 ++ (X0 ++ Y0), R2, R20, by first | rfl | (congr 1; omega), by first | rfl | go_num | (congr 1; omega), rfl, hbn, Nat.le_refl _, by simp; omega, by omega, ⟨HF.out.snoc (by omega) (HZ.out.run k1 k2)⟩, ⟨k3⟩, ⟨by rw [HE.out]; simp⟩, ⟨by simpa using HZ2.out⟩, ⟨HG.out.andThen (row' := some g) HZ3.out (fun j hj => .inr hj)⟩⟩
            · have b2 : decide ((b : Int) ≤ (n : Int)) = false := decide_eq_false (by omega)
              obtain ⟨m, hm⟩ : ∃ m, a + bs = m := ⟨_, rfl⟩
              have e1 : (a : Int) + (bs : Int) = (m : Int) := by omega
              by_cases hmn : m < n
              · have b4 : decide ((m : Int) < (n : Int)) = true := decide_eq_true (by omega)
                obtain ⟨X, X0, Y, Y0, rfl, rfl, xl, xr, hB1⟩ := HB.out.first (by omega)
                rw [List.length_append] at hR
                have yr : Run Y Y0 := hB1.one (by omega) (by omega)
                have hA : Asked X Y := Asked.of (D0 := D0) (R0 := []) xr yr (by rw [List.append_nil, ← HE.out]; exact HT.out) (by omega) (by omega)
                have hc := symMerge.calls _ g cap a m n n D X Y [] _ (Nat.le_refl _) hA (by simpa using HW.out) hD (by omega) (by omega) (by simp; omega) hlen
                have HX := Aside0.mk (show Run X X0 ∧ Run Y Y0 ∧ X.length + Y.length ≤ 2 * bs from ⟨xr, yr, by omega⟩)
                clear xr yr hB1 hA HB HW
                go_wp2_with (go_at_call 74; (with_reducible refine hc.mono ?_); rintro e w1 ⟨rfl, Z, z1, z2, z3⟩; have HZ := Aside0.mk z1; have HZ2 := Aside0.mk z2; have HZ3 := Aside0.mk z3; clear z1 z2 z3 hc)
                go_roundg (n - 2 * bs)
                case measure => have := HO.out; omega
                case rel =>
                  have zl := HZ.out.perm.length_eq
                  rw [List.length_append] at zl
                  obtain ⟨k1, k2, k3⟩ := HX.out
                  exact ⟨2 * bs, D ++ Z, by first | rfl | go_num | (congr 1; omega), by omega, by omega, Nat.le_refl _, ⟨by rw [HE.out]; exact HF.out.blk (.last (by omega) (HZ.out.run k1 k2))⟩, ⟨by simpa using HZ2.out⟩, ⟨HG.out.andThen (row' := some g) HZ3.out (fun j hj => .inr hj)⟩⟩
              · have b4 : decide ((m : Int) < (n : Int)) = false := decide_eq_false (by omega)
                have hr1 := HB.out.one (by omega) (by omega)
                have HX := Aside0.mk (show Run R R0 ∧ R.length ≤ 2 * bs from ⟨hr1, by omega⟩)
                clear hr1 HB
                go_wp2
                go_roundg (n - 2 * bs)
                case measure => have := HO.out; omega
                case rel =>
                  exact ⟨2 * bs, D ++ R, by first | rfl | go_num | (congr 1; omega), by omega, by omega, Nat.le_refl _, ⟨by rw [HE.out]; exact HF.out.blk (.last HX.out.2 HX.out.1)⟩, HW, HG⟩
        · have b3 : decide ((bs : Int) < (n : Int)) = false := decide_eq_false (by omega)
          go_wp2
          go_end0
          exact ⟨rfl, T, HB.out.one (by rw [HB.out.len, HTl.out]; omega) (by omega), HW.out, HG.out⟩
end Go.Proofs.Ytgdnljhndjlefaa.QNeedFits

/- Needs in order of their names, however many. No conditions beyond those that each theorem names. -/
namespace Go.Proofs.Ytgdnljhndjlefaa.QNeedFits
open Go.RowKit Go.Proofs.Ytgdnljhndjlefaa.PNeedFits Go.Proofs.YtgdnljhndjlefaaW.PrintWords Go.Proofs.YtgdnljhndjlefaaW.PrintLast Go.Proofs.YtgdnljhndjlefaaW.PrintMore Go.Proofs.Ytgdnljhndjlefaa.MMaps
set_option linter.unusedVariables false
set_option linter.unusedSimpArgs false
set_option maxRecDepth 100000
def tagFrom : Nat → List Nd → List Tg
  | _, [] => []
  | i, x :: r => (x, i) :: tagFrom (i + 1) r
theorem un_tag : ∀ (i : Nat) (L : List Nd), un (tagFrom i L) = L
  | _, [] => rfl
  | i, x :: r => by show x :: un (tagFrom (i + 1) r) = x :: r; rw [un_tag (i + 1) r]
theorem tag_ge : ∀ (i : Nat) (L : List Nd), ∀ x ∈ tagFrom i L, i ≤ x.2
  | _, [], x, h => by cases h
  | i, y :: r, x, h => by
    rcases List.mem_cons.mp h with e | e
    · rw [e]; exact Nat.le_refl _
    · have := tag_ge (i + 1) r x e; omega
theorem tag_rises : ∀ (i : Nat) (L : List Nd), (tagFrom i L).Pairwise fun x y => x.2 < y.2
  | _, [] => List.Pairwise.nil
  | i, y :: r => List.pairwise_cons.mpr ⟨fun x hx => by have := tag_ge (i + 1) r x hx; show i < x.2; omega, tag_rises (i + 1) r⟩
theorem tag_len (L : List Nd) : (tagFrom 0 L).length = L.length := by
  have : (un (tagFrom 0 L)).length = L.length := by rw [un_tag]
  simpa [un] using this
/-- M is L, put in order of the names, what is alike as it stood. -/
def Stably (L M : List Nd) : Prop := ∃ T, Run T (tagFrom 0 L) ∧ un T = M
theorem Stably.uniq {L M M' : List Nd} (h : Stably L M) (h' : Stably L M') : M = M' := by
  obtain ⟨T, h1, rfl⟩ := h
  obtain ⟨T', h2, rfl⟩ := h'
  rw [h1.asc.perm h2.asc (h1.perm.trans h2.perm.symm)]
theorem Stably.len {L M : List Nd} (h : Stably L M) : M.length = L.length := by
  obtain ⟨T, h1, rfl⟩ := h
  have := h1.perm.length_eq
  have e := tag_len L
  unfold un
  rw [List.length_map]
  omega
set_option maxHeartbeats 8000000 in
theorem sortAll.calls (g cap n : Nat) (L : List Nd) (w : World) (h : RowAt w g cap L) (hn : L.length = n) (hlen : n ≤ 100000) :
    Calls Try.prog 41 #[.slice (some ⟨g, 0, none⟩) n cap, .func (.func 42) #[] #[]] w fun e w' => e = .returned (.tuple #[]) ∧ ∃ M, Stably L M ∧ RowAt w' g cap M ∧ w.grownBy w' (some g) := by
  have hl : (tagFrom 0 L).length = n := by
    rw [tag_len, hn]
  have h1 := stableAll.calls g cap n (tagFrom 0 L) w (by rw [un_tag]; exact h) (tag_rises 0 L) hl hlen
  go_enter Try.func41, Try.ntmps41
  go_wp2_with (go_at_call 56; (with_reducible refine h1.mono ?_); rintro e w1 ⟨rfl, T, hT, hR, hG⟩)
  go_end0
  exact ⟨rfl, un T, ⟨T, hT, rfl⟩, hR, hG⟩
set_option maxHeartbeats 8000000 in
theorem SortedAll.calls (A : Option Addr) (c : Nat) (L : List Nd) (w : World) (hC : Kd.C k52 w A L.length L) (hc : L.length ≤ c) (hl : L.length ≤ 100000) (hn : A = none → c = 0) :
    Calls Try.prog 23 #[.slice A L.length c] w fun e w' => ∃ v M, e = .returned v ∧ Stably L M ∧ Kd.R k52 52 w' w.heap.size (fun _ => True) v M ∧ Below w.heap.size w w' := by
  have hCl := Clone.calls A c L w hC hc hl hn
  clear hC
  go_enter Try.func23, Try.ntmps23
  go_upto_region 2 with (go_at_call 40; refine hCl.mono ?_; rintro e w1 ⟨v1, rfl, hR1, hB1⟩)
  rcases RowAt.of hR1 with ⟨rfl, rfl⟩ | ⟨g, cap, rfl, hg, hok, hR⟩
  · go_wp2_with (go_at_call 41; refine (sortStable_nil _).mono ?_; rintro e w2 ⟨rfl, d2⟩)
    go_ret
    exact ⟨_, [], rfl, ⟨[], ⟨List.Perm.refl _, List.Pairwise.nil⟩, rfl⟩, Kd.R_nil _ _ _ _ _, below_go hB1 hB1.size d2.below⟩
  · have hs := sortAll.calls g cap L.length L w1 hR rfl hl
    clear hR1
    go_wp2_with (go_at_call 41; (with_reducible refine hs.mono ?_); rintro e w2 ⟨rfl, M, hM, hR2, hG2⟩)
    go_ret
    exact ⟨_, M, rfl, hM, by have := hR2.R (base := w.heap.size) (ok := fun _ => True) hg trivial; rw [hM.len] at this; exact this, hB1.trans (grown_below hG2 hg hB1.size)⟩
end Go.Proofs.Ytgdnljhndjlefaa.QNeedFits
