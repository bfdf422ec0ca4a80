/- Two runs in order become one: the library's symMerge, at any lengths. No conditions beyond those that each theorem names. -/
import Derived.Test.YtgdnljhndjlefaaQNeedFitsNeedMerge
namespace Go.Proofs.Ytgdnljhndjlefaa.QNeedFits
open Go.RowKit Go.Proofs.Ytgdnljhndjlefaa.PNeedFits Go.Proofs.YtgdnljhndjlefaaW.PrintWords Go.Proofs.YtgdnljhndjlefaaW.PrintLast Go.Proofs.YtgdnljhndjlefaaW.PrintMore Go.Proofs.Ytgdnljhndjlefaa.MMaps
set_option linter.unusedVariables false
set_option linter.unusedSimpArgs false
set_option maxRecDepth 100000
/-- The needs of a list with places. -/
abbrev un (T : List Tg) : List Nd := T.map Prod.fst
theorem un_last {A : List Tg} {x : Tg} (h : A.getLast? = some x) : (un A).getLast? = some x.1 := by unfold un; rw [List.getLast?_map, h]; rfl
theorem un_head {A : List Tg} {x : Tg} (h : A.head? = some x) : (un A).head? = some x.1 := by unfold un; rw [List.head?_map, h]; rfl
/-- What a merge of two runs leaves. -/
structure Merged (X Y Z : List Tg) : Prop where
  perm : Z.Perm (X ++ Y)
  asc : Asc Z
/-- What a merge is asked with. -/
structure Asked (X Y : List Tg) : Prop where
  x0 : 0 < X.length
  y0 : 0 < Y.length
  ax : Asc X
  ay : Asc Y
  tags : ∀ x ∈ X, ∀ y ∈ Y, x.2 < y.2
def MergesAt (sz : Nat) : Prop := ∀ (g cap a m b n : Nat) (P X Y S : List Tg) (w : World), X.length + Y.length ≤ sz → Asked X Y → RowAt w g cap (un (P ++ (X ++ (Y ++ S)))) → P.length = a → a + X.length = m → m + Y.length = b → (P ++ (X ++ (Y ++ S))).length = n → n ≤ 100000 →
    Calls Try.prog 74 #[.slice (some ⟨g, 0, none⟩) n cap, .int .i64 a, .int .i64 m, .int .i64 b, .func (.func 42) #[] #[]] w fun e w' => e = .returned (.tuple #[]) ∧ ∃ Z, Merged X Y Z ∧ RowAt w' g cap (un (P ++ (Z ++ S))) ∧ w.grownBy w' (some g)
theorem merge_one (sz : Nat) (g cap a m b n : Nat) (P X Y S : List Tg) (w : World) (hk : Asked X Y) (hx1 : X.length = 1) (h : RowAt w g cap (un (P ++ (X ++ (Y ++ S))))) (ha : P.length = a) (hm : a + X.length = m) (hb : m + Y.length = b) (hn : (P ++ (X ++ (Y ++ S))).length = n) (hlen : n ≤ 100000) :
    Calls Try.prog 74 #[.slice (some ⟨g, 0, none⟩) n cap, .int .i64 a, .int .i64 m, .int .i64 b, .func (.func 42) #[] #[]] w fun e w' => e = .returned (.tuple #[]) ∧ ∃ Z, Merged X Y Z ∧ RowAt w' g cap (un (P ++ (Z ++ S))) ∧ w.grownBy w' (some g) := by
  obtain ⟨x, rfl⟩ := List.length_eq_one_iff.mp hx1
  have e1 : un (P ++ ([x] ++ (Y ++ S))) = un P ++ x.1 :: (un Y ++ un S) := by simp [un]
  rw [e1] at h
  refine (merge_left g cap a m b n (un P) (un Y) (un S) x.1 w h (by simpa using ha) (by simpa using hm) (by simpa using hb) (by rw [← e1]; simpa using hn) hlen).mono ?_
  rintro e w' ⟨he, i, hi, h1, h2, h3, h4⟩
  refine ⟨he, Y.take i ++ ([x] ++ Y.drop i), ?_, ?_, h4⟩
  · have ay : Asc (Y.take i ++ Y.drop i) := by rw [List.take_append_drop]; exact hk.ay
    have tg : ∀ z ∈ ([] ++ [x] : List Tg), ∀ y ∈ Y.take i ++ Y.drop i, z.2 < y.2 := by rw [List.take_append_drop]; exact hk.tags
    have a2 : Asc ([x] ++ Y.drop i) := hk.ax.append ay.right (by
      cases hy : (Y.drop i).head? with
      | none => rw [List.head?_eq_none_iff] at hy; rw [hy]; intro x _ y h; cases h
      | some y =>
        have hym : y ∈ Y.take i ++ Y.drop i := List.mem_append_right _ (List.mem_of_head? hy)
        exact Asc.last hk.ax ay.right (x := x) rfl hy ((ltT_early (tg x (by simp) y hym)).mpr (h2 y.1 (by have := un_head hy; rwa [un, List.map_drop] at this))))
    have := merge_parts (X1 := []) (X2 := [x]) (Y1 := Y.take i) (Y2 := Y.drop i) (Z1 := Y.take i) (Z2 := [x] ++ Y.drop i) hk.ax ay tg (fun x y h => by cases h) (fun y z hy hz => by
      simp at hz
      subst hz
      exact h1 y.1 (by have := un_last hy; rwa [un, List.map_take] at this)) (List.Perm.refl _) ay.left (List.Perm.refl _) a2
    rw [List.take_append_drop] at this
    exact ⟨this.1, this.2⟩
  · have : un (P ++ ((Y.take i ++ ([x] ++ Y.drop i)) ++ S)) = un P ++ (un Y).take i ++ x.1 :: ((un Y).drop i ++ un S) := by simp [un, List.map_take, List.map_drop]
    rw [this]; exact h3
theorem merge_last (sz : Nat) (g cap a m b n : Nat) (P X Y S : List Tg) (w : World) (hk : Asked X Y) (hx1 : X.length ≠ 1) (hy1 : Y.length = 1) (h : RowAt w g cap (un (P ++ (X ++ (Y ++ S))))) (ha : P.length = a) (hm : a + X.length = m) (hb : m + Y.length = b) (hn : (P ++ (X ++ (Y ++ S))).length = n) (hlen : n ≤ 100000) :
    Calls Try.prog 74 #[.slice (some ⟨g, 0, none⟩) n cap, .int .i64 a, .int .i64 m, .int .i64 b, .func (.func 42) #[] #[]] w fun e w' => e = .returned (.tuple #[]) ∧ ∃ Z, Merged X Y Z ∧ RowAt w' g cap (un (P ++ (Z ++ S))) ∧ w.grownBy w' (some g) := by
  obtain ⟨y, rfl⟩ := List.length_eq_one_iff.mp hy1
  have e1 : un (P ++ (X ++ ([y] ++ S))) = un P ++ (un X ++ y.1 :: un S) := by simp [un]
  rw [e1] at h
  refine (merge_right g cap a m b n (un P) (un X) (un S) y.1 w h (by simpa using ha) (by simpa using hm) (by simpa using hb) (by simpa using hx1) (by rw [← e1]; simpa using hn) hlen).mono ?_
  rintro e w' ⟨he, i, hi, h1, h2, h3, h4⟩
  refine ⟨he, X.take i ++ ([y] ++ X.drop i), ?_, ?_, h4⟩
  · have ax : Asc (X.take i ++ X.drop i) := by rw [List.take_append_drop]; exact hk.ax
    have tg : ∀ z ∈ X.take i ++ X.drop i, ∀ u ∈ ([] ++ [y] : List Tg), z.2 < u.2 := by rw [List.take_append_drop]; exact hk.tags
    have a2 : Asc ([y] ++ X.drop i) := hk.ay.append ax.right (by
      cases hx : (X.drop i).head? with
      | none => rw [List.head?_eq_none_iff] at hx; rw [hx]; intro x _ y h; cases h
      | some x =>
        have hxm : x ∈ X.take i ++ X.drop i := List.mem_append_right _ (List.mem_of_head? hx)
        exact Asc.last hk.ay ax.right (x := y) rfl hx ((ltT_late (tg x hxm y (by simp))).mpr (h2 x.1 (by have := un_head hx; rwa [un, List.map_drop] at this))))
    have := merge_parts (X1 := X.take i) (X2 := X.drop i) (Y1 := []) (Y2 := [y]) (Z1 := X.take i) (Z2 := [y] ++ X.drop i) ax hk.ay tg (fun x z hx hz => by
      simp at hz
      subst hz
      exact h1 x.1 (by have := un_last hx; rwa [un, List.map_take] at this)) (fun y x h => by cases h) (by simp) ax.left List.perm_append_comm a2
    rw [List.take_append_drop] at this
    exact ⟨this.1, this.2⟩
  · have : un (P ++ ((X.take i ++ ([y] ++ X.drop i)) ++ S)) = un P ++ (un X).take i ++ y.1 :: ((un X).drop i ++ un S) := by simp [un, List.map_take, List.map_drop]
    rw [this]; exact h3
/-- Where the search begins and ends. -/
structure Span (a m b mid nn lo hi : Nat) : Prop where
  lo0 : a ≤ lo
  lh : lo ≤ hi
  him : hi ≤ m
  hid : hi ≤ mid
  nb : nn ≤ lo + b
  ends : lo = a ∨ lo + b = nn
  tops : hi = m ∨ hi = mid
  sum : mid + m = nn
  mids : (a + b) / 2 = mid
/-- What the search found. -/
structure Found (D : List Nd) (nn lo hi s : Nat) : Prop where
  early : s = lo ∨ ltN D[nn - s]! D[s - 1]! = false
  late : s = hi ∨ ltN D[nn - 1 - s]! D[s]! = true
theorem idx_two (P X Y S : List Tg) (s : Nat) (hs : s < X.length + Y.length) : (un (P ++ (X ++ (Y ++ S))))[P.length + s]! = ((X ++ Y)[s]'(by simpa using hs)).1 := by
  have hl : P.length + s < (un (P ++ (X ++ (Y ++ S)))).length := by simp; omega
  rw [getElem!_pos (un (P ++ (X ++ (Y ++ S)))) (P.length + s) hl]
  simp only [un, List.getElem_map]
  rw [List.getElem_append_right (by omega)]
  have e : P.length + s - P.length = s := by omega
  simp only [e]
  congr 1
  by_cases h : s < X.length
  · rw [List.getElem_append_left h, List.getElem_append_left h]
  · rw [List.getElem_append_right (by omega), List.getElem_append_left (by omega), List.getElem_append_right (by omega)]
/-- The parts that the search found fit. -/
theorem found_parts {P X Y S : List Tg} {a m b mid nn lo hi s : Nat} (hsp : Span a m b mid nn lo hi) (ha : P.length = a) (hm : a + X.length = m) (hb : m + Y.length = b) (h1 : lo ≤ s) (h2 : s ≤ hi) (hf : Found (un (P ++ (X ++ (Y ++ S)))) nn lo hi s) :
    (∀ x y, (X.take (s - a)).getLast? = some x → (Y.drop (mid - s)).head? = some y → ltN y.1 x.1 = false) ∧ (∀ y x, (Y.take (mid - s)).getLast? = some y → (X.drop (s - a)).head? = some x → ltN y.1 x.1 = true) := by
  obtain ⟨p1, p2, p3, p4, p5, p6, p7, p8, p9⟩ := hsp
  refine ⟨fun x y hx hy => ?_, fun y x hy hx => ?_⟩
  · have c1 : 0 < s - a := by
      rcases Nat.eq_zero_or_pos (s - a) with e | e
      · rw [e] at hx; simp at hx
      · exact e
    have c2 : mid - s < Y.length := by
      rcases Nat.lt_or_ge (mid - s) Y.length with e | e
      · exact e
      · rw [List.drop_eq_nil_of_le e] at hy; cases hy
    rcases hf.early with e | e
    · rcases p6 with q | q <;> omega
    · have i1 := idx_two P X Y S (s - 1 - a) (by omega)
      have i2 := idx_two P X Y S (nn - s - a) (by omega)
      rw [ha, show a + (s - 1 - a) = s - 1 by omega] at i1
      rw [ha, show a + (nn - s - a) = nn - s by omega] at i2
      rw [i1, i2] at e
      rw [List.getElem_append_right (by omega), List.getElem_append_left (by omega)] at e
      rw [List.getLast?_eq_getElem?, List.length_take, Nat.min_eq_left (by omega), List.getElem?_take, if_pos (by omega), List.getElem?_eq_getElem (by omega)] at hx
      rw [List.head?_drop, List.getElem?_eq_getElem c2] at hy
      injection hx with hx
      injection hy with hy
      subst hx hy
      simp only [show s - a - 1 = s - 1 - a by omega, show mid - s = nn - s - a - X.length by omega]
      exact e
  · have c1 : 0 < mid - s := by
      rcases Nat.eq_zero_or_pos (mid - s) with e | e
      · rw [e] at hy; simp at hy
      · exact e
    have c2 : s - a < X.length := by
      rcases Nat.lt_or_ge (s - a) X.length with e | e
      · exact e
      · rw [List.drop_eq_nil_of_le e] at hx; cases hx
    rcases hf.late with e | e
    · rcases p7 with q | q <;> omega
    · have i1 := idx_two P X Y S (s - a) (by omega)
      have i2 := idx_two P X Y S (nn - 1 - s - a) (by omega)
      rw [ha, show a + (s - a) = s by omega] at i1
      rw [ha, show a + (nn - 1 - s - a) = nn - 1 - s by omega] at i2
      rw [i1, i2] at e
      rw [List.getElem_append_right (by omega), List.getElem_append_left (by omega)] at e
      rw [List.getLast?_eq_getElem?, List.length_take, Nat.min_eq_left (by omega), List.getElem?_take, if_pos (by omega), List.getElem?_eq_getElem (by omega)] at hy
      rw [List.head?_drop, List.getElem?_eq_getElem c2] at hx
      injection hx with hx
      injection hy with hy
      subst hx hy
      simp only [show mid - s - 1 = nn - 1 - s - a - X.length by omega]
      exact e
theorem span_of (a m b : Nat) (h1 : a < m) (h2 : m < b) : ∃ mid nn lo hi, Span a m b mid nn lo hi ∧ ((mid < m ∧ lo + b = nn ∧ hi = mid) ∨ (¬ mid < m ∧ lo = a ∧ hi = m)) := by
  by_cases h : (a + b) / 2 < m
  · exact ⟨(a + b) / 2, (a + b) / 2 + m, (a + b) / 2 + m - b, (a + b) / 2, ⟨by omega, by omega, by omega, by omega, by omega, by omega, by omega, rfl, rfl⟩, .inl ⟨h, by omega, rfl⟩⟩
  · exact ⟨(a + b) / 2, (a + b) / 2 + m, a, m, ⟨by omega, by omega, by omega, by omega, by omega, by omega, by omega, rfl, rfl⟩, .inr ⟨h, rfl, rfl⟩⟩
theorem Merged.two {X1 X2 Y1 Y2 Z1 Z2 X Y : List Tg} (hX : X1 ++ X2 = X) (hY : Y1 ++ Y2 = Y) (hk : Asked X Y) (h1 : ∀ x y, X1.getLast? = some x → Y2.head? = some y → ltN y.1 x.1 = false) (h2 : ∀ y x, Y1.getLast? = some y → X2.head? = some x → ltN y.1 x.1 = true) (m1 : Merged X1 Y1 Z1) (m2 : Merged X2 Y2 Z2) : Merged X Y (Z1 ++ Z2) := by
  subst hX hY
  have := merge_parts hk.ax hk.ay hk.tags h1 h2 m1.perm m1.asc m2.perm m2.asc
  exact ⟨this.1, this.2⟩
theorem Merged.none_l {Y : List Tg} (h : Asc Y) : Merged [] Y Y := ⟨List.Perm.refl _, h⟩
theorem Merged.none_r {X : List Tg} (h : Asc X) : Merged X [] X := ⟨by simp, h⟩
theorem Merged.none_ {X Y : List Tg} (h : X = [] ∨ Y = []) (hx : Asc X) (hy : Asc Y) : Merged X Y (X ++ Y) := by
  refine ⟨List.Perm.refl _, ?_⟩
  rcases h with rfl | rfl
  · simpa using hy
  · simpa using hx
theorem same_row {P X1 X2 Y1 Y2 S : List Tg} (h : X2 = [] ∨ Y1 = []) : un (P ++ ((X1 ++ X2) ++ ((Y1 ++ Y2) ++ S))) = un (P ++ ((X1 ++ Y1) ++ ((X2 ++ Y2) ++ S))) := by
  rcases h with rfl | rfl <;> simp
/-- What is done behind the search: each part with its own contract. -/
structure Rest (sz g cap a m b n mid en s : Nat) (P X1 X2 Y1 Y2 S : List Tg) : Prop where
  x1 : P.length = a ∧ a + X1.length = s
  x2 : s + X2.length = m
  y1 : m + Y1.length = en ∧ s + Y1.length = mid
  y2 : en + Y2.length = b
  n_ : P.length + X1.length + X2.length + Y1.length + Y2.length + S.length = n
  len : n ≤ 100000
theorem Rest.rot {sz g cap a m b n mid en s : Nat} {P X1 X2 Y1 Y2 S : List Tg} (h : Rest sz g cap a m b n mid en s P X1 X2 Y1 Y2 S) (h2 : 0 < X2.length) (h3 : 0 < Y1.length) (W : World) (hR : RowAt W g cap (un (P ++ ((X1 ++ X2) ++ ((Y1 ++ Y2) ++ S))))) :
    Calls Try.prog 82 #[.slice (some ⟨g, 0, none⟩) n cap, .int .i64 s, .int .i64 m, .int .i64 en, .func (.func 42) #[] #[]] W fun e w' => e = .returned (.tuple #[]) ∧ RowAt w' g cap (un (P ++ ((X1 ++ Y1) ++ ((X2 ++ Y2) ++ S)))) ∧ W.grownBy w' (some g) := by
  obtain ⟨⟨q1, q2⟩, q3, ⟨q4, q5⟩, q6, q7, q8⟩ := h
  have e1 : un (P ++ ((X1 ++ X2) ++ ((Y1 ++ Y2) ++ S))) = un (P ++ X1) ++ un X2 ++ un Y1 ++ un (Y2 ++ S) := by simp [un]
  have e2 : un (P ++ ((X1 ++ Y1) ++ ((X2 ++ Y2) ++ S))) = un (P ++ X1) ++ un Y1 ++ un X2 ++ un (Y2 ++ S) := by simp [un]
  rw [e1] at hR
  rw [e2]
  exact rotate.calls g cap s m en n (un (P ++ X1)) (un X2) (un Y1) (un (Y2 ++ S)) W hR (by simp; omega) (by simpa using q3) (by simpa using q4) (by simp; omega) q8 (by simpa using h2) (by simpa using h3)
theorem Rest.one {sz g cap a m b n mid en s : Nat} {P X1 X2 Y1 Y2 S : List Tg} (h : Rest sz g cap a m b n mid en s P X1 X2 Y1 Y2 S) (ih : MergesAt sz) (hk : Asked X1 Y1) (hz : X1.length + Y1.length ≤ sz) (W : World) (hR : RowAt W g cap (un (P ++ ((X1 ++ Y1) ++ ((X2 ++ Y2) ++ S))))) :
    Calls Try.prog 74 #[.slice (some ⟨g, 0, none⟩) n cap, .int .i64 a, .int .i64 s, .int .i64 mid, .func (.func 42) #[] #[]] W fun e w' => e = .returned (.tuple #[]) ∧ ∃ Z1, Merged X1 Y1 Z1 ∧ RowAt w' g cap (un (P ++ (Z1 ++ ((X2 ++ Y2) ++ S)))) ∧ W.grownBy w' (some g) := by
  obtain ⟨⟨q1, q2⟩, q3, ⟨q4, q5⟩, q6, q7, q8⟩ := h
  exact ih g cap a s mid n P X1 Y1 ((X2 ++ Y2) ++ S) W hz hk (by simpa using hR) q1 q2 q5 (by simp; omega) q8
theorem Rest.two {sz g cap a m b n mid en s : Nat} {P X1 X2 Y1 Y2 S : List Tg} (h : Rest sz g cap a m b n mid en s P X1 X2 Y1 Y2 S) (ih : MergesAt sz) (hk : Asked X2 Y2) (hz : X2.length + Y2.length ≤ sz) {Z1 : List Tg} (hM : Merged X1 Y1 Z1) (W : World) (hR : RowAt W g cap (un (P ++ (Z1 ++ ((X2 ++ Y2) ++ S))))) :
    Calls Try.prog 74 #[.slice (some ⟨g, 0, none⟩) n cap, .int .i64 mid, .int .i64 en, .int .i64 b, .func (.func 42) #[] #[]] W fun e w' => e = .returned (.tuple #[]) ∧ ∃ Z2, Merged X2 Y2 Z2 ∧ RowAt w' g cap (un (P ++ (Z1 ++ (Z2 ++ S)))) ∧ W.grownBy w' (some g) := by
  obtain ⟨⟨q1, q2⟩, q3, ⟨q4, q5⟩, q6, q7, q8⟩ := h
  have hl := hM.perm.length_eq
  rw [List.length_append] at hl
  have := ih g cap mid en b n (P ++ Z1) X2 Y2 S W hz hk (by simpa using hR) (by simp; omega) (by omega) q6 (by simp; omega) q8
  simpa using this
set_option maxHeartbeats 32000000 in
theorem merge_more (sz g cap a m b n : Nat) (P X Y S : List Tg) (w : World) (ih : MergesAt sz) (hsz : X.length + Y.length ≤ sz + 1) (hk : Asked X Y) (hx1 : X.length ≠ 1) (hy1 : Y.length ≠ 1) (h : RowAt w g cap (un (P ++ (X ++ (Y ++ S))))) (ha : P.length = a) (hm : a + X.length = m) (hb : m + Y.length = b) (hn : (P ++ (X ++ (Y ++ S))).length = n) (hlen : n ≤ 100000) :
    Calls Try.prog 74 #[.slice (some ⟨g, 0, none⟩) n cap, .int .i64 a, .int .i64 m, .int .i64 b, .func (.func 42) #[] #[]] w fun e w' => e = .returned (.tuple #[]) ∧ ∃ Z, Merged X Y Z ∧ RowAt w' g cap (un (P ++ (Z ++ S))) ∧ w.grownBy w' (some g) := by
  have HK := Aside0.mk hk
  have HR := Aside0.mk h
  have IH := Aside0.mk ih
  have hx0 := hk.x0
  have hy0 := hk.y0
  have hma : (m : Int) - (a : Int) = (X.length : Int) := by omega
  have hma1 : ((X.length : Int) == 1) = false := beq_eq_false_iff_ne.mpr (by omega)
  have hbm : (b : Int) - (m : Int) = (Y.length : Int) := by omega
  have hbm1 : ((Y.length : Int) == 1) = false := beq_eq_false_iff_ne.mpr (by omega)
  have hn' : P.length + X.length + Y.length + S.length = n := by rw [← hn]; simp; omega
  have hbn : b ≤ n := by omega
  obtain ⟨mid, nn, lo, hi, hsp, hcase⟩ := span_of a m b (by omega) (by omega)
  have HSP := Aside0.mk hsp
  have HSZ := Aside0.mk hsz
  obtain ⟨p1, p2, p3, p4, p5, p6, p7, p8, p9⟩ := hsp
  have e1 : ((a : Int) + (b : Int)) / 2 = (mid : Int) := by omega
  have e2 : (mid : Int) + (m : Int) = (nn : Int) := by omega
  obtain ⟨pp, hpp⟩ : ∃ pp, nn - 1 = pp := ⟨_, rfl⟩
  have e4 : (nn : Int) - 1 = (pp : Int) := by omega
  have HN := Aside0.mk (show (un (P ++ (X ++ (Y ++ S)))).length = n by simp; omega)
  have HL := Aside0.mk (show a + X.length = m ∧ m + Y.length = b ∧ P.length = a ∧ P.length + X.length + Y.length + S.length = n from ⟨hm, hb, ha, hn'⟩)
  have hnb : nn ≤ 200000 := by omega
  clear h ih hk hsz hn
  rcases hcase with ⟨hgt, c1, c2⟩ | ⟨hgt, c1, c2⟩
  all_goals
    try (have e3 : (nn : Int) - (b : Int) = (lo : Int) := by omega)
    go_enter Try.func74, Try.ntmps74
    go_wp2
    go_loopg [20, 21] n (fun gg v20 v21 wr => ∃ s r : Nat, v20 = .int .i64 s ∧ v21 = .int .i64 r ∧ lo ≤ s ∧ s ≤ r ∧ r ≤ hi ∧ r - s ≤ gg ∧ Aside0 (s = lo ∨ ltN (un (P ++ (X ++ (Y ++ S))))[nn - s]! (un (P ++ (X ++ (Y ++ S))))[s - 1]! = false) ∧ Aside0 (r = hi ∨ ltN (un (P ++ (X ++ (Y ++ S))))[nn - 1 - r]! (un (P ++ (X ++ (Y ++ S))))[r]! = true) ∧ Aside0 (RowAt wr g cap (un (P ++ (X ++ (Y ++ S))))) ∧ Aside0 (w.grownBy wr (some g)))
    case atStart => exact ⟨lo, hi, by simp only [c1], by simp only [c2], Nat.le_refl _, p2, Nat.le_refl _, by omega, ⟨.inl rfl⟩, ⟨.inl rfl⟩, HR, ⟨same_grown⟩⟩
    case round =>
      obtain ⟨s, r, rfl, rfl, h1, h2, h3, hg, HI, HJ, HW, HG⟩ := hrel
      by_cases hlt : s < r
      · have b2 : decide ((s : Int) < (r : Int)) = true := decide_eq_true (by omega)
        obtain ⟨k, hk⟩ : ∃ k, (s + r) / 2 = k := ⟨_, rfl⟩
        have e5 : ((s : Int) + (r : Int)) / 2 = (k : Int) := by omega
        obtain ⟨pk, hpk⟩ : ∃ pk, pp - k = pk := ⟨_, rfl⟩
        have e6 : (pp : Int) - (k : Int) = (pk : Int) := by omega
        have hkn : k < n := by omega
        have hkn' : (k : Int) < (n : Int) := by omega
        have hpn : pk < n := by omega
        have hpn' : (pk : Int) < (n : Int) := by omega
        obtain ⟨x, hx⟩ : ∃ x, (un (P ++ (X ++ (Y ++ S))))[k]! = x := ⟨_, rfl⟩
        obtain ⟨y, hy⟩ : ∃ y, (un (P ++ (X ++ (Y ++ S))))[pk]! = y := ⟨_, rfl⟩
        have HS : Aside0 (∀ W : World, Gr wr W → Two W g pk k y x) := ⟨fun W hW => Two.of ((HW.out.gr hW).at_ (by rw [HN.out]; exact hpn) hy) ((HW.out.gr hW).at_ (by rw [HN.out]; exact hkn) hx)⟩
        have HK := Aside0.mk (show (s + r) / 2 = k ∧ s < r ∧ r - s ≤ gk ∧ nn - (k + 1) = pk ∧ nn - 1 - k = pk ∧ lo ≤ s ∧ r ≤ hi from ⟨hk, hlt, hg, by omega, by omega, h1, h3⟩)
        have HXY := Aside0.mk (And.intro hx hy)
        have hv0 := Gr.refl wr
        have hcall := Sorted1.gr y x
        have hpb : pk ≤ 100000 := by omega
        clear hx hy hk hpk p1 p2 p3 p4 p5 p6 p7 p8 p9
        go_upto_region 35 with (fail)
        have j6 := wrap_nat hpb
        have j8 := wrapI_nat hpb
        cases hc : ltN y x with
        | true =>
          have hcc := cmp_lt' y x true hc
          go_region_held3 (fun W => W.cell? ⟨g, pk * 3, none⟩ = some (.string y.f0) ∧ W.cell? ⟨g, pk * 3 + 1, none⟩ = some (.int .i64 y.f1) ∧ W.cell? ⟨g, pk * 3 + 2, none⟩ = some (.int .i64 y.f2) ∧ W.cell? ⟨g, k * 3, none⟩ = some (.string x.f0) ∧ W.cell? ⟨g, k * 3 + 1, none⟩ = some (.int .i64 x.f1) ∧ W.cell? ⟨g, k * 3 + 2, none⟩ = some (.int .i64 x.f2)) (exact HS.out _ (by repeat (first | assumption | apply Gr.drew | apply Gr.alloc))) (first | (go_at_call 42; refine (hcall _).mono ?_; rintro e w1 ⟨rfl, hd1⟩; have hb1 : Gr wr w1 := Gr.trans (by repeat (first | assumption | apply Gr.drew | apply Gr.alloc)) hd1; clear hd1))
          clear j6 j8
          go_wp2
          go_roundg (k - s)
          case measure => have := HK.out; omega
          case rel =>
            have hk := HK.out
            exact ⟨s, k, rfl, rfl, by omega, by omega, by omega, Nat.le_refl _, HI, ⟨.inr (by rw [hk.2.2.2.2.1, HXY.out.1, HXY.out.2]; exact hc)⟩, ⟨HW.out.gr hb1⟩, ⟨HG.out.andThen (row' := some g) (gr_grown hb1) (fun j hj => .inr hj)⟩⟩
        | false =>
          have hcc := cmp_lt' y x false hc
          go_region_held3 (fun W => W.cell? ⟨g, pk * 3, none⟩ = some (.string y.f0) ∧ W.cell? ⟨g, pk * 3 + 1, none⟩ = some (.int .i64 y.f1) ∧ W.cell? ⟨g, pk * 3 + 2, none⟩ = some (.int .i64 y.f2) ∧ W.cell? ⟨g, k * 3, none⟩ = some (.string x.f0) ∧ W.cell? ⟨g, k * 3 + 1, none⟩ = some (.int .i64 x.f1) ∧ W.cell? ⟨g, k * 3 + 2, none⟩ = some (.int .i64 x.f2)) (exact HS.out _ (by repeat (first | assumption | apply Gr.drew | apply Gr.alloc))) (first | (go_at_call 42; refine (hcall _).mono ?_; rintro e w1 ⟨rfl, hd1⟩; have hb1 : Gr wr w1 := Gr.trans (by repeat (first | assumption | apply Gr.drew | apply Gr.alloc)) hd1; clear hd1))
          clear j6 j8
          go_wp2
          go_roundg (r - (k + 1))
          case measure => have := HK.out; omega
          case rel =>
            have hk := HK.out
            exact ⟨k + 1, r, by go_num, rfl, by omega, by omega, by omega, Nat.le_refl _, ⟨.inr (by rw [hk.2.2.2.1, Nat.add_sub_cancel, HXY.out.1, HXY.out.2]; exact hc)⟩, HJ, ⟨HW.out.gr hb1⟩, ⟨HG.out.andThen (row' := some g) (gr_grown hb1) (fun j hj => .inr hj)⟩⟩
      · have b2 : decide ((s : Int) < (r : Int)) = false := decide_eq_false (by omega)
        have hsr : s = r := by omega
        subst hsr
        have hfp := found_parts HSP.out ha hm hb h1 h3 ⟨HI.out, HJ.out⟩
        obtain ⟨en, hen⟩ : ∃ en, nn - s = en := ⟨_, rfl⟩
        have e5 : (nn : Int) - (s : Int) = (en : Int) := by omega
        have l1 : (X.take (s - a)).length = s - a := by rw [List.length_take]; omega
        have l2 : (X.drop (s - a)).length = m - s := by rw [List.length_drop]; omega
        have l3 : (Y.take (mid - s)).length = mid - s := by rw [List.length_take]; omega
        have l4 : (Y.drop (mid - s)).length = b - en := by rw [List.length_drop]; omega
        have hX := List.take_append_drop (s - a) X
        have hY := List.take_append_drop (mid - s) Y
        generalize X.take (s - a) = X1 at *
        generalize X.drop (s - a) = X2 at *
        generalize Y.take (mid - s) = Y1 at *
        generalize Y.drop (mid - s) = Y2 at *
        have HRS := Aside0.mk (show Rest sz g cap a m b n mid en s P X1 X2 Y1 Y2 S from ⟨⟨ha, by omega⟩, by omega, ⟨by omega, by omega⟩, by omega, by omega, hlen⟩)
        have ax : Asc (X1 ++ X2) := by rw [hX]; exact HK.out.ax
        have ay : Asc (Y1 ++ Y2) := by rw [hY]; exact HK.out.ay
        have tg : ∀ x ∈ X1 ++ X2, ∀ y ∈ Y1 ++ Y2, x.2 < y.2 := by rw [hX, hY]; exact HK.out.tags
        have hz1 : X1.length + Y1.length ≤ sz := by have := HSZ.out; omega
        have hz2 : X2.length + Y2.length ≤ sz := by have := HSZ.out; omega
        have hRt := HW.out
        rw [← hX, ← hY] at hRt
        have hG := HG.out
        clear HI HJ HW HG
        rcases Nat.eq_zero_or_pos X2.length with zx2 | zx2
        · have hR := hRt
          rw [same_row (.inl (List.length_eq_zero_iff.mp zx2))] at hR
          have hM2 : Merged X2 Y2 (X2 ++ Y2) := Merged.none_ (.inl (List.length_eq_zero_iff.mp zx2)) ax.right ay.right
          rcases Nat.eq_zero_or_pos Y1.length with zy1 | zy1
          · have f0 : ¬ s < m := by omega
            have f1 : ¬ s < mid := by omega
            have f2 : ¬ mid < en := by omega
            have f3 : a < s := by omega
            have f4 : m ≤ en := by omega
            have hM1 : Merged X1 Y1 (X1 ++ Y1) := Merged.none_ (.inr (List.length_eq_zero_iff.mp zy1)) ax.left ay.left
            clear ha hm hb hn' l1 l2 l3 l4 p1 p2 p3 p4 p5 p6 p7 p8 p9 hg hlt h1 h3 h2 hen hz1 hz2 hRt
            go_wp2_with (first
              | (go_at_call 82; (with_reducible refine (hrot _ hR).mono ?_); rintro e x ⟨rfl, hR', hG'⟩; have g9 := (hG.andThen (row' := some g) hG' (fun j hj => .inr hj)); clear hR hG hG'; have hR := hR'; have hG := g9; clear hR' g9)
              | (go_at_call 74; first
                | ((with_reducible refine (hone _ hR).mono ?_); rintro e x ⟨rfl, Z1, hM1, hR', hG'⟩; have g9 := (hG.andThen (row' := some g) hG' (fun j hj => .inr hj)); clear hR hG hG'; have hR := hR'; have hG := g9; clear hR' g9)
                | ((with_reducible refine (htwo hM1 _ hR).mono ?_); rintro e x ⟨rfl, Z2, hM2, hR', hG'⟩; have g9 := (hG.andThen (row' := some g) hG' (fun j hj => .inr hj)); clear hR hG hG'; have hR := hR'; have hG := g9; clear hR' g9)))
            go_end0
            exact ⟨rfl, _, Merged.two hX hY HK.out hfp.1 hfp.2 hM1 hM2, by simpa using hR, hG⟩
          · have zx1 : 0 < X1.length := by omega
            have f0 : ¬ s < m := by omega
            have f1 : s < mid := by omega
            have f2 : ¬ mid < en := by omega
            have f3 : a < s := by omega
            have f4 : m < en := by omega
            have hone := HRS.out.one IH.out ⟨zx1, zy1, ax.left, ay.left, fun x hx y hy => tg x (List.mem_append_left _ hx) y (List.mem_append_left _ hy)⟩ hz1
            clear ha hm hb hn' l1 l2 l3 l4 p1 p2 p3 p4 p5 p6 p7 p8 p9 hg hlt h1 h3 h2 hen hz1 hz2 hRt
            go_wp2_with (first
              | (go_at_call 82; (with_reducible refine (hrot _ hR).mono ?_); rintro e x ⟨rfl, hR', hG'⟩; have g9 := (hG.andThen (row' := some g) hG' (fun j hj => .inr hj)); clear hR hG hG'; have hR := hR'; have hG := g9; clear hR' g9)
              | (go_at_call 74; first
                | ((with_reducible refine (hone _ hR).mono ?_); rintro e x ⟨rfl, Z1, hM1, hR', hG'⟩; have g9 := (hG.andThen (row' := some g) hG' (fun j hj => .inr hj)); clear hR hG hG'; have hR := hR'; have hG := g9; clear hR' g9)
                | ((with_reducible refine (htwo hM1 _ hR).mono ?_); rintro e x ⟨rfl, Z2, hM2, hR', hG'⟩; have g9 := (hG.andThen (row' := some g) hG' (fun j hj => .inr hj)); clear hR hG hG'; have hR := hR'; have hG := g9; clear hR' g9)))
            go_end0
            exact ⟨rfl, _, Merged.two hX hY HK.out hfp.1 hfp.2 hM1 hM2, by simpa using hR, hG⟩
        · rcases Nat.eq_zero_or_pos Y1.length with zy1 | zy1
          · have hR := hRt
            rw [same_row (.inr (List.length_eq_zero_iff.mp zy1))] at hR
            have zy2 : 0 < Y2.length := by omega
            have f0 : s < m := by omega
            have f1 : ¬ m < en := by omega
            have f2 : a < s := by omega
            have f3 : ¬ s < mid := by omega
            have f4 : mid < en := by omega
            have f5 : en < b := by omega
            have hM1 : Merged X1 Y1 (X1 ++ Y1) := Merged.none_ (.inr (List.length_eq_zero_iff.mp zy1)) ax.left ay.left
            have htwo := fun {Z1} (hM : Merged X1 Y1 Z1) => HRS.out.two IH.out ⟨zx2, zy2, ax.right, ay.right, fun x hx y hy => tg x (List.mem_append_right _ hx) y (List.mem_append_right _ hy)⟩ hz2 hM
            clear ha hm hb hn' l1 l2 l3 l4 p1 p2 p3 p4 p5 p6 p7 p8 p9 hg hlt h1 h3 h2 hen hz1 hz2 hRt
            go_wp2_with (first
              | (go_at_call 82; (with_reducible refine (hrot _ hR).mono ?_); rintro e x ⟨rfl, hR', hG'⟩; have g9 := (hG.andThen (row' := some g) hG' (fun j hj => .inr hj)); clear hR hG hG'; have hR := hR'; have hG := g9; clear hR' g9)
              | (go_at_call 74; first
                | ((with_reducible refine (hone _ hR).mono ?_); rintro e x ⟨rfl, Z1, hM1, hR', hG'⟩; have g9 := (hG.andThen (row' := some g) hG' (fun j hj => .inr hj)); clear hR hG hG'; have hR := hR'; have hG := g9; clear hR' g9)
                | ((with_reducible refine (htwo hM1 _ hR).mono ?_); rintro e x ⟨rfl, Z2, hM2, hR', hG'⟩; have g9 := (hG.andThen (row' := some g) hG' (fun j hj => .inr hj)); clear hR hG hG'; have hR := hR'; have hG := g9; clear hR' g9)))
            go_end0
            exact ⟨rfl, _, Merged.two hX hY HK.out hfp.1 hfp.2 hM1 hM2, by simpa using hR, hG⟩
          · have hR := hRt
            have hrot := HRS.out.rot zx2 zy1
            rcases Nat.eq_zero_or_pos X1.length with zx1 | zx1
            · rcases Nat.eq_zero_or_pos Y2.length with zy2 | zy2
              · have f0 : s < m := by omega
                have f1 : m < en := by omega
                have f2 : ¬ a < s := by omega
                have f3 : mid < en := by omega
                have f4 : ¬ en < b := by omega
                have hM1 : Merged X1 Y1 (X1 ++ Y1) := Merged.none_ (.inl (List.length_eq_zero_iff.mp zx1)) ax.left ay.left
                have hM2 : Merged X2 Y2 (X2 ++ Y2) := Merged.none_ (.inr (List.length_eq_zero_iff.mp zy2)) ax.right ay.right
                clear ha hm hb hn' l1 l2 l3 l4 p1 p2 p3 p4 p5 p6 p7 p8 p9 hg hlt h1 h3 h2 hen hz1 hz2 hRt
                go_wp2_with (first
                  | (go_at_call 82; (with_reducible refine (hrot _ hR).mono ?_); rintro e x ⟨rfl, hR', hG'⟩; have g9 := (hG.andThen (row' := some g) hG' (fun j hj => .inr hj)); clear hR hG hG'; have hR := hR'; have hG := g9; clear hR' g9)
                  | (go_at_call 74; first
                    | ((with_reducible refine (hone _ hR).mono ?_); rintro e x ⟨rfl, Z1, hM1, hR', hG'⟩; have g9 := (hG.andThen (row' := some g) hG' (fun j hj => .inr hj)); clear hR hG hG'; have hR := hR'; have hG := g9; clear hR' g9)
                    | ((with_reducible refine (htwo hM1 _ hR).mono ?_); rintro e x ⟨rfl, Z2, hM2, hR', hG'⟩; have g9 := (hG.andThen (row' := some g) hG' (fun j hj => .inr hj)); clear hR hG hG'; have hR := hR'; have hG := g9; clear hR' g9)))
                go_end0
                exact ⟨rfl, _, Merged.two hX hY HK.out hfp.1 hfp.2 hM1 hM2, by simpa using hR, hG⟩
              · have f0 : s < m := by omega
                have f1 : m < en := by omega
                have f2 : ¬ a < s := by omega
                have f3 : mid < en := by omega
                have f4 : en < b := by omega
                have hM1 : Merged X1 Y1 (X1 ++ Y1) := Merged.none_ (.inl (List.length_eq_zero_iff.mp zx1)) ax.left ay.left
                have htwo := fun {Z1} (hM : Merged X1 Y1 Z1) => HRS.out.two IH.out ⟨zx2, zy2, ax.right, ay.right, fun x hx y hy => tg x (List.mem_append_right _ hx) y (List.mem_append_right _ hy)⟩ hz2 hM
                clear ha hm hb hn' l1 l2 l3 l4 p1 p2 p3 p4 p5 p6 p7 p8 p9 hg hlt h1 h3 h2 hen hz1 hz2 hRt
                go_wp2_with (first
                  | (go_at_call 82; (with_reducible refine (hrot _ hR).mono ?_); rintro e x ⟨rfl, hR', hG'⟩; have g9 := (hG.andThen (row' := some g) hG' (fun j hj => .inr hj)); clear hR hG hG'; have hR := hR'; have hG := g9; clear hR' g9)
                  | (go_at_call 74; first
                    | ((with_reducible refine (hone _ hR).mono ?_); rintro e x ⟨rfl, Z1, hM1, hR', hG'⟩; have g9 := (hG.andThen (row' := some g) hG' (fun j hj => .inr hj)); clear hR hG hG'; have hR := hR'; have hG := g9; clear hR' g9)
                    | ((with_reducible refine (htwo hM1 _ hR).mono ?_); rintro e x ⟨rfl, Z2, hM2, hR', hG'⟩; have g9 := (hG.andThen (row' := some g) hG' (fun j hj => .inr hj)); clear hR hG hG'; have hR := hR'; have hG := g9; clear hR' g9)))
                go_end0
                exact ⟨rfl, _, Merged.two hX hY HK.out hfp.1 hfp.2 hM1 hM2, by simpa using hR, hG⟩
            · rcases Nat.eq_zero_or_pos Y2.length with zy2 | zy2
              · have f0 : s < m := by omega
                have f1 : m < en := by omega
                have f2 : a < s := by omega
                have f3 : s < mid := by omega
                have f4 : mid < en := by omega
                have f5 : ¬ en < b := by omega
                have hone := HRS.out.one IH.out ⟨zx1, zy1, ax.left, ay.left, fun x hx y hy => tg x (List.mem_append_left _ hx) y (List.mem_append_left _ hy)⟩ hz1
                have hM2 : Merged X2 Y2 (X2 ++ Y2) := Merged.none_ (.inr (List.length_eq_zero_iff.mp zy2)) ax.right ay.right
                clear ha hm hb hn' l1 l2 l3 l4 p1 p2 p3 p4 p5 p6 p7 p8 p9 hg hlt h1 h3 h2 hen hz1 hz2 hRt
                go_wp2_with (first
                  | (go_at_call 82; (with_reducible refine (hrot _ hR).mono ?_); rintro e x ⟨rfl, hR', hG'⟩; have g9 := (hG.andThen (row' := some g) hG' (fun j hj => .inr hj)); clear hR hG hG'; have hR := hR'; have hG := g9; clear hR' g9)
                  | (go_at_call 74; first
                    | ((with_reducible refine (hone _ hR).mono ?_); rintro e x ⟨rfl, Z1, hM1, hR', hG'⟩; have g9 := (hG.andThen (row' := some g) hG' (fun j hj => .inr hj)); clear hR hG hG'; have hR := hR'; have hG := g9; clear hR' g9)
                    | ((with_reducible refine (htwo hM1 _ hR).mono ?_); rintro e x ⟨rfl, Z2, hM2, hR', hG'⟩; have g9 := (hG.andThen (row' := some g) hG' (fun j hj => .inr hj)); clear hR hG hG'; have hR := hR'; have hG := g9; clear hR' g9)))
                go_end0
                exact ⟨rfl, _, Merged.two hX hY HK.out hfp.1 hfp.2 hM1 hM2, by simpa using hR, hG⟩
              · have f0 : s < m := by omega
                have f1 : m < en := by omega
                have f2 : a < s := by omega
                have f3 : s < mid := by omega
                have f4 : mid < en := by omega
                have f5 : en < b := by omega
                have hone := HRS.out.one IH.out ⟨zx1, zy1, ax.left, ay.left, fun x hx y hy => tg x (List.mem_append_left _ hx) y (List.mem_append_left _ hy)⟩ hz1
                have htwo := fun {Z1} (hM : Merged X1 Y1 Z1) => HRS.out.two IH.out ⟨zx2, zy2, ax.right, ay.right, fun x hx y hy => tg x (List.mem_append_right _ hx) y (List.mem_append_right _ hy)⟩ hz2 hM
                clear ha hm hb hn' l1 l2 l3 l4 p1 p2 p3 p4 p5 p6 p7 p8 p9 hg hlt h1 h3 h2 hen hz1 hz2 hRt
                go_wp2_with (first
                  | (go_at_call 82; (with_reducible refine (hrot _ hR).mono ?_); rintro e x ⟨rfl, hR', hG'⟩; have g9 := (hG.andThen (row' := some g) hG' (fun j hj => .inr hj)); clear hR hG hG'; have hR := hR'; have hG := g9; clear hR' g9)
                  | (go_at_call 74; first
                    | ((with_reducible refine (hone _ hR).mono ?_); rintro e x ⟨rfl, Z1, hM1, hR', hG'⟩; have g9 := (hG.andThen (row' := some g) hG' (fun j hj => .inr hj)); clear hR hG hG'; have hR := hR'; have hG := g9; clear hR' g9)
                    | ((with_reducible refine (htwo hM1 _ hR).mono ?_); rintro e x ⟨rfl, Z2, hM2, hR', hG'⟩; have g9 := (hG.andThen (row' := some g) hG' (fun j hj => .inr hj)); clear hR hG hG'; have hR := hR'; have hG := g9; clear hR' g9)))
                go_end0
                exact ⟨rfl, _, Merged.two hX hY HK.out hfp.1 hfp.2 hM1 hM2, by simpa using hR, hG⟩
theorem symMerge.calls : ∀ sz, MergesAt sz := by
  intro sz
  induction sz with
  | zero => intro g cap a m b n P X Y S w hz hk; have := hk.x0; omega
  | succ sz ih =>
    intro g cap a m b n P X Y S w hz hk h ha hm hb hn hlen
    by_cases hx1 : X.length = 1
    · exact merge_one sz g cap a m b n P X Y S w hk hx1 h ha hm hb hn hlen
    · by_cases hy1 : Y.length = 1
      · exact merge_last sz g cap a m b n P X Y S w hk hx1 hy1 h ha hm hb hn hlen
      · exact merge_more sz g cap a m b n P X Y S w ih hz hk hx1 hy1 h ha hm hb hn hlen
end Go.Proofs.Ytgdnljhndjlefaa.QNeedFits
