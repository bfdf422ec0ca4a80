/- Needs with their places: an order in which no two are alike. No conditions beyond those that each theorem names. -/
import Derived.Test.YtgdnljhndjlefaaQNeedFitsNeedRotate
namespace Go.Proofs.Ytgdnljhndjlefaa.QNeedFits
open Go.RowKit Go.Proofs.Ytgdnljhndjlefaa.PNeedFits Go.Proofs.YtgdnljhndjlefaaW.PrintWords Go.Proofs.YtgdnljhndjlefaaW.PrintLast Go.Proofs.YtgdnljhndjlefaaW.PrintMore Go.Proofs.Ytgdnljhndjlefaa.MMaps
set_option linter.unusedVariables false
set_option linter.unusedSimpArgs false
set_option maxRecDepth 100000
/-- A need with the place at which it stood. -/
abbrev Tg := Nd × Nat
def ltT (x y : Tg) : Prop := ltN x.1 y.1 = true ∨ (ltN y.1 x.1 = false ∧ x.2 < y.2)
theorem ltN_asymm {x y : Nd} (h : ltN x y = true) : ltN y x = false := by
  cases e : ltN y x with
  | false => rfl
  | true => have := swoN.trans x y x h e; rw [swoN.irrefl] at this; cases this
theorem ltT_irrefl (x : Tg) : ¬ ltT x x := by
  rintro (h | ⟨_, h⟩)
  · rw [swoN.irrefl] at h; cases h
  · omega
theorem ltT_trans {x y z : Tg} (h : ltT x y) (k : ltT y z) : ltT x z := by
  rcases h with h | ⟨h, h2⟩
  · rcases k with k | ⟨k, _⟩
    · exact .inl (swoN.trans _ _ _ h k)
    · left
      cases e : ltN x.1 z.1 with
      | true => rfl
      | false => have := swoN.ntrans _ _ _ e k; rw [h] at this; cases this
  · rcases k with k | ⟨k, k2⟩
    · left
      cases e : ltN x.1 z.1 with
      | true => rfl
      | false => have := swoN.ntrans _ _ _ h e; rw [k] at this; cases this
    · exact .inr ⟨swoN.ntrans _ _ _ k h, by omega⟩
theorem ltT_total {x y : Tg} (h : x.2 < y.2) : ltT x y ∨ ltT y x := by
  cases e : ltN y.1 x.1 with
  | true => exact .inr (.inl e)
  | false => exact .inl (.inr ⟨e, h⟩)
/-- The later one is ahead of the earlier one just where it is less. -/
theorem ltT_late {x y : Tg} (h : x.2 < y.2) : ltT y x ↔ ltN y.1 x.1 = true := by
  constructor
  · rintro (k | ⟨_, k⟩)
    · exact k
    · omega
  · exact .inl
theorem ltT_early {x y : Tg} (h : x.2 < y.2) : ltT x y ↔ ltN y.1 x.1 = false := by
  constructor
  · rintro (k | ⟨k, _⟩)
    · exact ltN_asymm k
    · exact k
  · exact fun k => .inr ⟨k, h⟩
def Asc (L : List Tg) : Prop := L.Pairwise ltT
theorem Asc.append {A B : List Tg} (h : Asc A) (k : Asc B) (hb : ∀ x ∈ A, ∀ y ∈ B, ltT x y) : Asc (A ++ B) := List.pairwise_append.mpr ⟨h, k, hb⟩
theorem Asc.left {A B : List Tg} (h : Asc (A ++ B)) : Asc A := (List.pairwise_append.mp h).1
theorem Asc.right {A B : List Tg} (h : Asc (A ++ B)) : Asc B := (List.pairwise_append.mp h).2.1
theorem Asc.cross {A B : List Tg} (h : Asc (A ++ B)) : ∀ x ∈ A, ∀ y ∈ B, ltT x y := (List.pairwise_append.mp h).2.2
theorem Asc.perm {A B : List Tg} (h : Asc A) (k : Asc B) (hp : A.Perm B) : A = B :=
  List.Perm.eq_of_pairwise (fun a b _ _ h1 h2 => absurd (ltT_trans h1 h2) (ltT_irrefl a)) h k hp
/-- All of a run are ahead of what its last one is ahead of. -/
theorem Asc.last {A B : List Tg} (h : Asc A) (k : Asc B) {x y : Tg} (hx : A.getLast? = some x) (hy : B.head? = some y) (hxy : ltT x y) : ∀ a ∈ A, ∀ b ∈ B, ltT a b := by
  intro a ha b hb
  have h1 : ltT a y := by
    obtain ⟨A', rfl⟩ := List.getLast?_eq_some_iff.mp hx
    rcases List.mem_append.mp ha with e | e
    · exact ltT_trans (h.cross a e x (by simp)) hxy
    · rw [List.mem_singleton] at e; rw [e]; exact hxy
  cases B with
  | nil => cases hb
  | cons z t =>
    simp at hy
    subst hy
    rcases List.mem_cons.mp hb with e | e
    · rw [e]; exact h1
    · exact ltT_trans h1 ((List.pairwise_cons.mp k).1 b e)
/-- Two runs that are parted at places that fit: what is put together is in order, once both halves are. -/
theorem merge_parts {X1 X2 Y1 Y2 Z1 Z2 : List Tg} (hX : Asc (X1 ++ X2)) (hY : Asc (Y1 ++ Y2)) (ht : ∀ x ∈ X1 ++ X2, ∀ y ∈ Y1 ++ Y2, x.2 < y.2)
    (h1 : ∀ x y, X1.getLast? = some x → Y2.head? = some y → ltN y.1 x.1 = false) (h2 : ∀ y x, Y1.getLast? = some y → X2.head? = some x → ltN y.1 x.1 = true)
    (p1 : Z1.Perm (X1 ++ Y1)) (a1 : Asc Z1) (p2 : Z2.Perm (X2 ++ Y2)) (a2 : Asc Z2) : (Z1 ++ Z2).Perm ((X1 ++ X2) ++ (Y1 ++ Y2)) ∧ Asc (Z1 ++ Z2) := by
  have c1 : ∀ x ∈ X1, ∀ y ∈ Y2, ltT x y := by
    cases hx : X1.getLast? with
    | none => rw [List.getLast?_eq_none_iff] at hx; subst hx; intro x h; cases h
    | some x =>
      cases hy : Y2.head? with
      | none => rw [List.head?_eq_none_iff] at hy; subst hy; intro x _ y h; cases h
      | some y => exact Asc.last hX.left hY.right hx hy ((ltT_early (ht x (List.mem_append_left _ (List.mem_of_getLast? hx)) y (List.mem_append_right _ (List.mem_of_head? hy)))).mpr (h1 x y hx hy))
  have c2 : ∀ y ∈ Y1, ∀ x ∈ X2, ltT y x := by
    cases hy : Y1.getLast? with
    | none => rw [List.getLast?_eq_none_iff] at hy; subst hy; intro x h; cases h
    | some y =>
      cases hx : X2.head? with
      | none => rw [List.head?_eq_none_iff] at hx; subst hx; intro x _ y h; cases h
      | some x => exact Asc.last hY.left hX.right hy hx ((ltT_late (ht x (List.mem_append_right _ (List.mem_of_head? hx)) y (List.mem_append_left _ (List.mem_of_getLast? hy)))).mpr (h2 y x hy hx))
  refine ⟨?_, a1.append a2 (fun z hz u hu => ?_)⟩
  · refine (p1.append p2).trans ?_
    rw [List.append_assoc, List.append_assoc]
    refine List.Perm.append_left X1 ?_
    rw [← List.append_assoc, ← List.append_assoc]
    exact List.Perm.append_right Y2 List.perm_append_comm
  · rcases List.mem_append.mp (p1.mem_iff.mp hz) with e | e <;> rcases List.mem_append.mp (p2.mem_iff.mp hu) with f | f
    · exact hX.cross z e u f
    · exact c1 z e u f
    · exact c2 z e u f
    · exact hY.cross z e u f
end Go.Proofs.Ytgdnljhndjlefaa.QNeedFits

/- Two runs in order become one: the library's symMerge. No conditions beyond those that each theorem names. -/
namespace Go.Proofs.Ytgdnljhndjlefaa.QNeedFits
open Go.RowKit Go.Proofs.Ytgdnljhndjlefaa.PNeedFits Go.Proofs.YtgdnljhndjlefaaW.PrintWords Go.Proofs.YtgdnljhndjlefaaW.PrintLast Go.Proofs.YtgdnljhndjlefaaW.PrintMore Go.Proofs.Ytgdnljhndjlefaa.MMaps
set_option linter.unusedVariables false
set_option linter.unusedSimpArgs false
set_option maxRecDepth 100000
/-- What two places hold, written out. -/
def Two (W : World) (g p q : Nat) (x y : Nd) : Prop := W.cell? ⟨g, p * 3, none⟩ = some (.string x.f0) ∧ W.cell? ⟨g, p * 3 + 1, none⟩ = some (.int .i64 x.f1) ∧ W.cell? ⟨g, p * 3 + 2, none⟩ = some (.int .i64 x.f2) ∧ W.cell? ⟨g, q * 3, none⟩ = some (.string y.f0) ∧ W.cell? ⟨g, q * 3 + 1, none⟩ = some (.int .i64 y.f1) ∧ W.cell? ⟨g, q * 3 + 2, none⟩ = some (.int .i64 y.f2)
theorem Two.of {W : World} {g p q : Nat} {x y : Nd} (h : AtP W g p x) (k : AtP W g q y) : Two W g p q x y := ⟨h.c0, h.c1, h.c2, k.c0, k.c1, k.c2⟩
theorem cmp_lt (x y : Nd) : decide (cmpN x y < 0) = ltN x y := lt_cmpN x y
theorem cmp_lt' (x y : Nd) (b : Bool) (h : ltN x y = b) : decide (cmpN x y < 0) = b := (cmp_lt x y).trans h
theorem RowAt.gr {w w' : World} {g cap : Nat} {L : List Nd} (h : RowAt w g cap L) (hg : Gr w w') : RowAt w' g cap L := by
  have hb := hg.below
  obtain ⟨cur, h1, h2⟩ := h.own
  exact ⟨⟨cur, blk_below h1 hb, h2⟩, h.len, h.cap⟩
theorem gr_grown {w w' : World} {row : Option Nat} (h : Gr w w') : w.grownBy w' row := below_grown h.below row
theorem Sorted1.gr (x y : Nd) (w : World) : Calls Try.prog 42 #[.agg #[.string x.f0, .int .i64 x.f1, .int .i64 x.f2], .agg #[.string y.f0, .int .i64 y.f1, .int .i64 y.f2]] w fun e w' => e = .returned (.int .i64 (cmpN x y)) ∧ Gr w w' := Sorted1.calls x y w
def symM.T11 : Bool × List (List Nat × List Nat) := (true, [([], []), ([], []), ([], []), ([], []), ([3], [3]), ([], []), ([], []), ([6], [6]), ([5, 7], [5, 7]), ([8], [8]), ([], []), ([], []), ([10, 11], [10, 11]), ([12], [12]), ([0, 1, 0, 1, 5, 6, 7, 8, 9, 13], [0, 1]), ([14, 9, 0, 1, 5, 6, 7, 8, 9, 13], [9, 14]), ([2, 4, 0, 1, 2, 3, 4, 5, 6, 7, 8, 9, 10, 11, 12, 13, 14, 15], [2, 4]), ([16, 13, 15, 0, 1, 2, 3, 4, 5, 6, 7, 8, 9, 10, 11, 12, 13, 14, 15], [13, 16])])
def symM.B11 : List Nat := [0, 0, 0, 0, 8, 0, 0, 64, 224, 480, 0, 0, 3072, 7168, 16355, 32739, 65535, 131071]
theorem symM.tab11 : rtab .any (opsOf Try.f74 11) = symM.T11 := by kernel_rfl
theorem symM.bits11 : waitsOk symM.T11.2 symM.B11 = true := by kernel_rfl
def symM.T23 : Bool × List (List Nat × List Nat) := (true, [([], []), ([], []), ([], []), ([], []), ([3], [3]), ([], []), ([], []), ([6], [6]), ([5, 7], [5, 7]), ([8], [8]), ([], []), ([], []), ([10, 11], [10, 11]), ([12], [12]), ([0, 1, 0, 1, 5, 6, 7, 8, 9, 13], [0, 1]), ([14, 9, 0, 1, 5, 6, 7, 8, 9, 13], [9, 14]), ([2, 4, 0, 1, 2, 3, 4, 5, 6, 7, 8, 9, 10, 11, 12, 13, 14, 15], [2, 4]), ([16, 13, 15, 0, 1, 2, 3, 4, 5, 6, 7, 8, 9, 10, 11, 12, 13, 14, 15], [13, 16])])
def symM.B23 : List Nat := [0, 0, 0, 0, 8, 0, 0, 64, 224, 480, 0, 0, 3072, 7168, 16355, 32739, 65535, 131071]
theorem symM.tab23 : rtab .any (opsOf Try.f74 23) = symM.T23 := by kernel_rfl
theorem symM.bits23 : waitsOk symM.T23.2 symM.B23 = true := by kernel_rfl
theorem idx_behind (P Y S : List Nd) (x : Nd) (s : Nat) (hs : s < Y.length) : (P ++ x :: (Y ++ S))[P.length + 1 + s]! = Y[s] := by
  rw [getElem!_pos _ _ (by simp; omega), List.getElem_append_right (by omega)]
  have e : P.length + 1 + s - P.length = s + 1 := by omega
  simp only [e, List.getElem_cons_succ]
  rw [List.getElem_append_left hs]
set_option maxHeartbeats 16000000 in
/-- One that stands alone ahead of a run goes to its place. -/
theorem merge_left (g cap a m b n : Nat) (P Y S : List Nd) (x : Nd) (w : World) (h : RowAt w g cap (P ++ x :: (Y ++ S))) (ha : P.length = a) (hm : a + 1 = m) (hb : m + Y.length = b) (hn : (P ++ x :: (Y ++ S)).length = n) (hlen : n ≤ 100000) :
    Calls Try.prog 74 #[.slice (some ⟨g, 0, none⟩) n cap, .int .i64 a, .int .i64 m, .int .i64 b, .func (.func 42) #[] #[]] w fun e w' => e = .returned (.tuple #[]) ∧ ∃ i, i ≤ Y.length ∧ (∀ y, (Y.take i).getLast? = some y → ltN y x = true) ∧ (∀ y, (Y.drop i).head? = some y → ltN y x = false) ∧ RowAt w' g cap (P ++ Y.take i ++ x :: (Y.drop i ++ S)) ∧ w.grownBy w' (some g) := by
  have HR := Aside0.mk h
  have hma : (m : Int) - (a : Int) = 1 := by omega
  have hn' : P.length + 1 + Y.length + S.length = n := by rw [← hn]; simp; omega
  have hbn : b ≤ n := by omega
  have hxa : (P ++ x :: (Y ++ S))[a]! = x := by rw [← ha]; exact get_mid _ _ _
  have HN := Aside0.mk hn
  clear h hn
  go_enter Try.func74, Try.ntmps74
  go_wp2
  go_loopg [10, 11] n (fun gg v10 v11 wr => ∃ i j : Nat, v10 = .int .i64 i ∧ v11 = .int .i64 j ∧ m ≤ i ∧ i ≤ j ∧ j ≤ b ∧ j - i ≤ gg ∧ Aside0 (i = m ∨ ltN (P ++ x :: (Y ++ S))[i - 1]! x = true) ∧ Aside0 (j = b ∨ ltN (P ++ x :: (Y ++ S))[j]! x = false) ∧ Aside0 (RowAt wr g cap (P ++ x :: (Y ++ S))) ∧ Aside0 (w.grownBy wr (some g)))
  case atStart => exact ⟨m, b, rfl, rfl, Nat.le_refl _, by omega, Nat.le_refl _, by omega, ⟨.inl rfl⟩, ⟨.inl rfl⟩, HR, ⟨same_grown⟩⟩
  case round =>
    obtain ⟨i, j, rfl, rfl, h1, h2, h3, hg, HI, HJ, HW, HG⟩ := hrel
    by_cases hlt : i < j
    · have b2 : decide ((i : Int) < (j : Int)) = true := decide_eq_true (by omega)
      obtain ⟨k, hk⟩ : ∃ k, (i + j) / 2 = k := ⟨_, rfl⟩
      have e1 : ((i : Int) + (j : Int)) / 2 = (k : Int) := by omega
      have hkn : k < n := by omega
      have hkn' : (k : Int) < (n : Int) := by omega
      have han : (a : Int) < (n : Int) := by omega
      obtain ⟨y, hy⟩ : ∃ y, (P ++ x :: (Y ++ S))[k]! = y := ⟨_, rfl⟩
      have HS : Aside0 (∀ W : World, Gr wr W → Two W g k a y x) := ⟨fun W hW => Two.of ((HW.out.gr hW).at_ (by rw [HN.out]; exact hkn) hy) ((HW.out.gr hW).at_ (by rw [HN.out]; omega) hxa)⟩
      have HK := Aside0.mk (And.intro hk (And.intro hlt hg))
      have HY := Aside0.mk hy
      have hv0 := Gr.refl wr
      have hcall := Sorted1.gr y x
      clear hy hk
      go_upto_region 5 with (fail)
      cases hc : ltN y x with
      | true =>
        have hcc := cmp_lt' y x true hc
        go_region_held3 (fun W => W.cell? ⟨g, k * 3, none⟩ = some (.string y.f0) ∧ W.cell? ⟨g, k * 3 + 1, none⟩ = some (.int .i64 y.f1) ∧ W.cell? ⟨g, k * 3 + 2, none⟩ = some (.int .i64 y.f2) ∧ W.cell? ⟨g, a * 3, none⟩ = some (.string x.f0) ∧ W.cell? ⟨g, a * 3 + 1, none⟩ = some (.int .i64 x.f1) ∧ W.cell? ⟨g, a * 3 + 2, none⟩ = some (.int .i64 x.f2)) (exact HS.out _ (by repeat (first | assumption | apply Gr.drew | apply Gr.alloc))) (first | (go_at_call 42; refine (hcall _).mono ?_; rintro e w1 ⟨rfl, hd1⟩; have hb1 : Gr wr w1 := Gr.trans (by repeat (first | assumption | apply Gr.drew | apply Gr.alloc)) hd1; clear hd1))
        go_wp2
        go_roundg (j - (k + 1))
        case measure => have := HK.out; omega
        case rel =>
          have hk := HK.out
          exact ⟨k + 1, j, by go_num, rfl, by omega, by omega, h3, Nat.le_refl _, ⟨.inr (by rw [Nat.add_sub_cancel, HY.out]; exact hc)⟩, HJ, ⟨HW.out.gr hb1⟩, ⟨HG.out.andThen (row' := some g) (gr_grown hb1) (fun j hj => .inr hj)⟩⟩
      | false =>
        have hcc := cmp_lt' y x false hc
        go_region_held3 (fun W => W.cell? ⟨g, k * 3, none⟩ = some (.string y.f0) ∧ W.cell? ⟨g, k * 3 + 1, none⟩ = some (.int .i64 y.f1) ∧ W.cell? ⟨g, k * 3 + 2, none⟩ = some (.int .i64 y.f2) ∧ W.cell? ⟨g, a * 3, none⟩ = some (.string x.f0) ∧ W.cell? ⟨g, a * 3 + 1, none⟩ = some (.int .i64 x.f1) ∧ W.cell? ⟨g, a * 3 + 2, none⟩ = some (.int .i64 x.f2)) (exact HS.out _ (by repeat (first | assumption | apply Gr.drew | apply Gr.alloc))) (first | (go_at_call 42; refine (hcall _).mono ?_; rintro e w1 ⟨rfl, hd1⟩; have hb1 : Gr wr w1 := Gr.trans (by repeat (first | assumption | apply Gr.drew | apply Gr.alloc)) hd1; clear hd1))
        go_wp2
        go_roundg (k - i)
        case measure => have := HK.out; omega
        case rel =>
          have hk := HK.out
          exact ⟨i, k, rfl, rfl, h1, by omega, by omega, Nat.le_refl _, HI, ⟨.inr (by rw [HY.out]; exact hc)⟩, ⟨HW.out.gr hb1⟩, ⟨HG.out.andThen (row' := some g) (gr_grown hb1) (fun j hj => .inr hj)⟩⟩
    · have b2 : decide ((i : Int) < (j : Int)) = false := decide_eq_false (by omega)
      have hij : i = j := by omega
      subst hij
      obtain ⟨t, ht⟩ : ∃ t, i - m = t := ⟨_, rfl⟩
      have hty : t ≤ Y.length := by omega
      have HZ := Aside0.mk (show (∀ y, (Y.take t).getLast? = some y → ltN y x = true) ∧ (∀ y, (Y.drop t).head? = some y → ltN y x = false) from by
        refine ⟨fun y hy => ?_, fun y hy => ?_⟩
        · have ht0 : 0 < t := by
            rcases Nat.eq_zero_or_pos t with e | e
            · rw [e] at hy; simp at hy
            · exact e
          rcases HI.out with e | e
          · omega
          · have e2 : (P ++ x :: (Y ++ S))[i - 1]! = Y[t - 1] := by rw [show i - 1 = P.length + 1 + (t - 1) by omega]; exact idx_behind P Y S x (t - 1) (by omega)
            rw [List.getLast?_eq_getElem?, List.length_take, Nat.min_eq_left hty, List.getElem?_take, if_pos (by omega), List.getElem?_eq_getElem (by omega)] at hy
            injection hy with hy
            rw [e2, hy] at e
            exact e
        · have ht0 : t < Y.length := by
            rcases Nat.lt_or_ge t Y.length with e | e
            · exact e
            · rw [List.drop_eq_nil_of_le e] at hy; cases hy
          rcases HJ.out with e | e
          · omega
          · have e2 : (P ++ x :: (Y ++ S))[i]! = Y[t] := by rw [show i = P.length + 1 + t by omega]; exact idx_behind P Y S x t ht0
            rw [List.head?_drop, List.getElem?_eq_getElem ht0] at hy
            injection hy with hy
            rw [e2, hy] at e
            exact e)
      have hi1 : (i : Int) - 1 = ((a + t : Nat) : Int) := by omega
      have hat : a + t < n := by omega
      clear HI HJ h1 h2 h3 hg hlt
      go_wp2
      go_loopg [13] n (fun gg v13 wq => ∃ d : Nat, v13 = .int .i64 ((a + d : Nat) : Int) ∧ d ≤ t ∧ t - d ≤ gg ∧ Aside0 (RowAt wq g cap (P ++ Y.take d ++ x :: (Y.drop d ++ S))) ∧ Aside0 (w.grownBy wq (some g)))
      case atStart => exact ⟨0, rfl, Nat.zero_le _, by omega, ⟨by simpa using HW.out⟩, HG⟩
      case round =>
        clear HW HG
        rename World => wr
        obtain ⟨d, rfl, hd, hgd, HW, HG⟩ := hrel
        by_cases hlt : d < t
        · have hdy : d < Y.length := by omega
          obtain ⟨v, hv⟩ : ∃ v, Y[d] = v := ⟨_, rfl⟩
          have hD : Y.drop d = v :: Y.drop (d + 1) := by rw [← hv]; exact List.drop_eq_getElem_cons hdy
          have hT1 : Y.take (d + 1) = Y.take d ++ [v] := by rw [← hv]; exact List.take_succ_eq_append_getElem hdy
          have hRw0 := HW.out
          rw [hD] at hRw0
          have hRw : RowAt _ g cap (P ++ Y.take d ++ x :: ([] ++ v :: (Y.drop (d + 1) ++ S))) := hRw0
          obtain ⟨s1, _, s2, s3⟩ := set_two (P ++ Y.take d) [] (Y.drop (d + 1) ++ S) x v
          have hl1 : (P ++ Y.take d).length = a + d := by simp; omega
          obtain ⟨p, hp0⟩ : ∃ p, a + d = p := ⟨_, rfl⟩
          obtain ⟨q, hq0⟩ : ∃ q, a + d + 1 = q := ⟨_, rfl⟩
          rw [hl1, hp0] at s2
          rw [List.length_nil, Nat.add_zero, hl1, hq0] at s1 s3
          rw [hp0] at s1
          have hfin : P ++ Y.take d ++ v :: ([] ++ x :: (Y.drop (d + 1) ++ S)) = P ++ Y.take (d + 1) ++ x :: (Y.drop (d + 1) ++ S) := by rw [hT1]; simp
          rw [hfin] at s1
          have hll : (P ++ Y.take d ++ x :: ([] ++ v :: (Y.drop (d + 1) ++ S))).length = n := by simp; omega
          have hp : p < (P ++ Y.take d ++ x :: ([] ++ v :: (Y.drop (d + 1) ++ S))).length := by omega
          have hq : q < (P ++ Y.take d ++ x :: ([] ++ v :: (Y.drop (d + 1) ++ S))).length := by omega
          have HFIN := Aside0.mk s1
          have hpu := s2
          have hqv := s3
          have hpq : p ≠ q := by omega
          have hpn : (p : Int) < (n : Int) := by omega
          have hqn : (q : Int) < (n : Int) := by omega
          have hpt : (p : Int) < ((a + t : Nat) : Int) := by omega
          have e9 : (p : Int) + 1 = (q : Int) := by omega
          have hqb : q ≤ 100000 := by omega
          have HGW := HG
          clear hfin hv hD hT1 hRw0 s1 s2 s3 hl1 HG HW hi1
          rw [hp0]
          have HP := Aside0.mk (And.intro hp0 hq0)
          clear hp0 hq0
          generalize P ++ Y.take d ++ x :: ([] ++ v :: (Y.drop (d + 1) ++ S)) = L at *
          obtain ⟨u, hu⟩ : ∃ u, x = u := ⟨_, rfl⟩
          rw [hu] at hpu HFIN
          go_upto_region 11 with (fail)
          have j6 := wrap_nat hqb
          have j8 := wrapI_nat hqb
          have hRd : RowAt wr.drew g cap L := ⟨hRw.own, hRw.len, hRw.cap⟩
          have hGd : wr.grownBy wr.drew (some g) := below_grown (below_drew1 (Below.refl _ wr)) _
          have hS0 : AtP wr.drew g p u ∧ AtP wr.drew g q v := ⟨hRd.at_ hp hpu, hRd.at_ hq hqv⟩
          refine start_ (n := 18) (S := fun X => AtP X g p u ∧ AtP X g q v) (ds := [15, 17]) #[false, false, false, false, false, false, false, false, false, false, false, false, false, false, false, false, false, false] (by kernel_rfl) rfl rfl hS0 (fun hHeld => ?_)
          refine with_tabW symM.tab11 symM.bits11 (fun HT_ HW_ => ?_)
          clear hS0
          generalize wr.drew = Uw at *
          refine pure_ (i := 0) (N := some 61) (v := ?_) (a' := ?_) #[true, false, false, false, false, false, false, false, false, false, false, false, false, false, false, false, false, false] rfl rfl (any_of HT_.out (by kernel_rfl)) (fun _ _ _ h => h) (Or.inl ⟨by rfl, ?_⟩) ?_ ?_
          rotate_left
          · intro w'
            go_simp
            with_reducible rfl
          rotate_left
          · simp only [Act.put, List.setIfInBounds_toArray, List.set_cons_zero, List.set_cons_succ, i64_w, i32_w]
            rfl
          refine pure_ (i := 1) (N := some 62) (v := ?_) (a' := ?_) #[true, true, false, false, false, false, false, false, false, false, false, false, false, false, false, false, false, false] rfl rfl (any_of HT_.out (by kernel_rfl)) (fun _ _ _ h => h) (Or.inl ⟨by rfl, ?_⟩) ?_ ?_
          rotate_left
          · intro w'
            go_simp
            with_reducible rfl
          rotate_left
          · simp only [Act.put, List.setIfInBounds_toArray, List.set_cons_zero, List.set_cons_succ, i64_w, i32_w]
            rfl
          refine pure_ (i := 2) (N := some 63) (v := ?_) (a' := ?_) #[true, true, true, false, false, false, false, false, false, false, false, false, false, false, false, false, false, false] rfl rfl (any_of HT_.out (by kernel_rfl)) (fun _ _ _ h => h) (Or.inl ⟨by rfl, ?_⟩) ?_ ?_
          rotate_left
          · intro w'
            go_simp
            with_reducible rfl
          rotate_left
          · simp only [Act.put, List.setIfInBounds_toArray, List.set_cons_zero, List.set_cons_succ, i64_w, i32_w]
            rfl
          refine pure_ (i := 3) (N := some 64) (v := ?_) (a' := ?_) #[true, true, true, true, false, false, false, false, false, false, false, false, false, false, false, false, false, false] rfl rfl (any_of HT_.out (by kernel_rfl)) (fun _ _ _ h => h) (Or.inl ⟨by rfl, ?_⟩) ?_ ?_
          rotate_left
          · intro w'
            go_simp
            with_reducible rfl
          rotate_left
          · simp only [Act.put, List.setIfInBounds_toArray, List.set_cons_zero, List.set_cons_succ, i64_w, i32_w]
            rfl
          refine pure_ (i := 4) (N := some 65) (v := ?_) (a' := ?_) #[true, true, true, true, true, false, false, false, false, false, false, false, false, false, false, false, false, false] rfl rfl (any_of HT_.out (by kernel_rfl)) (fun _ _ _ h => h) (Or.inl ⟨by rfl, ?_⟩) ?_ ?_
          rotate_left
          · intro w'
            go_simp
            with_reducible rfl
          rotate_left
          · simp only [Act.put, List.setIfInBounds_toArray, List.set_cons_zero, List.set_cons_succ, i64_w, i32_w]
            rfl
          refine pure_ (i := 5) (N := some 66) (v := ?_) (a' := ?_) #[true, true, true, true, true, true, false, false, false, false, false, false, false, false, false, false, false, false] rfl rfl (any_of HT_.out (by kernel_rfl)) (fun _ _ _ h => h) (Or.inl ⟨by rfl, ?_⟩) ?_ ?_
          rotate_left
          · intro w'
            go_simp
            with_reducible rfl
          rotate_left
          · simp only [Act.put, List.setIfInBounds_toArray, List.set_cons_zero, List.set_cons_succ, i64_w, i32_w]
            rfl
          refine pure_ (i := 6) (N := some 67) (v := ?_) (a' := ?_) #[true, true, true, true, true, true, true, false, false, false, false, false, false, false, false, false, false, false] rfl rfl (any_of HT_.out (by kernel_rfl)) (fun _ _ _ h => h) (Or.inl ⟨by rfl, ?_⟩) ?_ ?_
          rotate_left
          · intro w'
            go_simp
            with_reducible rfl
          rotate_left
          · simp only [Act.put, List.setIfInBounds_toArray, List.set_cons_zero, List.set_cons_succ, i64_w, i32_w]
            rfl
          refine pure_ (i := 7) (N := some 68) (v := ?_) (a' := ?_) #[true, true, true, true, true, true, true, true, false, false, false, false, false, false, false, false, false, false] rfl rfl (any_of HT_.out (by kernel_rfl)) (fun _ _ _ h => h) (Or.inl ⟨by rfl, ?_⟩) ?_ ?_
          rotate_left
          · intro w'
            go_simp
            with_reducible rfl
          rotate_left
          · simp only [Act.put, List.setIfInBounds_toArray, List.set_cons_zero, List.set_cons_succ, i64_w, i32_w]
            rfl
          refine pure_ (i := 8) (N := some 69) (v := ?_) (a' := ?_) #[true, true, true, true, true, true, true, true, true, false, false, false, false, false, false, false, false, false] rfl rfl (any_of HT_.out (by kernel_rfl)) (fun _ _ _ h => h) (Or.inl ⟨by rfl, ?_⟩) ?_ ?_
          rotate_left
          · intro w'
            go_simp
            with_reducible rfl
          rotate_left
          · simp only [Act.put, List.setIfInBounds_toArray, List.set_cons_zero, List.set_cons_succ, i64_w, i32_w]
            rfl
          refine take_ (i := 9) (N := some 70) (v := ?_) (a' := ?_) #[true, true, true, true, true, true, true, true, true, true, false, false, false, false, false, false, false, false] rfl rfl (take_ofW HT_.out HW_.out (by kernel_rfl)) (fun _ _ _ h => h) (Or.inl ⟨by rfl, ?_⟩) hHeld ?_ ?_
          rotate_left
          · rintro w' ⟨⟨x0, x1, x2, x3, x4, x5⟩, ⟨y0, y1, y2, y3, y4, y5⟩⟩
            go_simp
            with_reducible rfl
          rotate_left
          · simp only [Act.put, List.setIfInBounds_toArray, List.set_cons_zero, List.set_cons_succ, i64_w, i32_w]
            rfl
          refine pure_ (i := 10) (N := some 71) (v := ?_) (a' := ?_) #[true, true, true, true, true, true, true, true, true, true, true, false, false, false, false, false, false, false] rfl rfl (any_of HT_.out (by kernel_rfl)) (fun _ _ _ h => h) (Or.inl ⟨by rfl, ?_⟩) ?_ ?_
          rotate_left
          · intro w'
            go_simp
            with_reducible rfl
          rotate_left
          · simp only [Act.put, List.setIfInBounds_toArray, List.set_cons_zero, List.set_cons_succ, i64_w, i32_w]
            rfl
          refine pure_ (i := 11) (N := some 72) (v := ?_) (a' := ?_) #[true, true, true, true, true, true, true, true, true, true, true, true, false, false, false, false, false, false] rfl rfl (any_of HT_.out (by kernel_rfl)) (fun _ _ _ h => h) (Or.inl ⟨by rfl, ?_⟩) ?_ ?_
          rotate_left
          · intro w'
            go_simp
            with_reducible rfl
          rotate_left
          · simp only [Act.put, List.setIfInBounds_toArray, List.set_cons_zero, List.set_cons_succ, i64_w, i32_w]
            rfl
          refine pure_ (i := 12) (N := some 73) (v := ?_) (a' := ?_) #[true, true, true, true, true, true, true, true, true, true, true, true, true, false, false, false, false, false] rfl rfl (any_of HT_.out (by kernel_rfl)) (fun _ _ _ h => h) (Or.inl ⟨by rfl, ?_⟩) ?_ ?_
          rotate_left
          · intro w'
            go_simp
            with_reducible rfl
          rotate_left
          · simp only [Act.put, List.setIfInBounds_toArray, List.set_cons_zero, List.set_cons_succ, i64_w, i32_w]
            rfl
          refine take_ (i := 13) (N := some 74) (v := ?_) (a' := ?_) #[true, true, true, true, true, true, true, true, true, true, true, true, true, true, false, false, false, false] rfl rfl (take_ofW HT_.out HW_.out (by kernel_rfl)) (fun _ _ _ h => h) (Or.inl ⟨by rfl, ?_⟩) hHeld ?_ ?_
          rotate_left
          · rintro w' ⟨⟨x0, x1, x2, x3, x4, x5⟩, ⟨y0, y1, y2, y3, y4, y5⟩⟩
            go_simp
            with_reducible rfl
          rotate_left
          · simp only [Act.put, List.setIfInBounds_toArray, List.set_cons_zero, List.set_cons_succ, i64_w, i32_w]
            rfl
          refine pure_ (i := 14) (N := some 75) (v := ?_) (a' := ?_) #[true, true, true, true, true, true, true, true, true, true, true, true, true, true, true, false, false, false] rfl rfl (any_of HT_.out (by kernel_rfl)) (fun _ _ _ h => h) (Or.inl ⟨by rfl, ?_⟩) ?_ ?_
          rotate_left
          · intro w'
            go_simp
            with_reducible rfl
          rotate_left
          · simp only [Act.put, List.setIfInBounds_toArray, List.set_cons_zero, List.set_cons_succ, i64_w, i32_w]
            rfl
          obtain ⟨x0, x1, x2, x3, x4, x5⟩ := hHeld.1
          refine last_ (i := 15) (N := none) #[true, true, true, true, true, true, true, true, true, true, true, true, true, true, true, true, false, false] rfl rfl (one_of HT_.out (by kernel_rfl)) (by decide) (fun K hK => ?_)
          refine skip_ (w1 := ?_) (by rfl) rfl ?_ ?_
          rotate_left
          · go_simp
            rfl
          refine hK.out _ _ ?_
          clear hK K x0 x1 x2 x3 x4 x5
          obtain ⟨W1, hW1⟩ : ∃ W1, W1 = Uw.setCells g (p * 3) (encN v) := ⟨_, rfl⟩
          rw [show ((Uw.setCell ⟨g, p * 3, none⟩ (.string v.f0)).setCell ⟨g, p * 3 + 1, none⟩ (.int .i64 v.f1)).setCell ⟨g, p * 3 + 2, none⟩ (.int .i64 v.f2) = W1 from hW1.symm]
          have hR1 : RowAt W1 g cap (L.set p v) := by rw [hW1]; exact hRd.put hp v
          have hG1 : wr.grownBy W1 (some g) := by rw [hW1]; exact hGd.andThen (row' := some g) (put_grown Uw g (p * 3) _) (fun j hj => .inr hj)
          clear hW1
          refine pure_ (i := 16) (N := some 76) (v := ?_) (a' := ?_) #[true, true, true, true, true, true, true, true, true, true, true, true, true, true, true, true, true, false] rfl rfl (any_of HT_.out (by kernel_rfl)) (fun _ _ _ h => h) (Or.inl ⟨by rfl, ?_⟩) ?_ ?_
          rotate_left
          · intro w'
            go_simp
            with_reducible rfl
          rotate_left
          · simp only [Act.put, List.setIfInBounds_toArray, List.set_cons_zero, List.set_cons_succ, i64_w, i32_w]
            rfl
          obtain ⟨x0, x1, x2, x3, x4, x5⟩ := hR1.at_ (p := q) (x := v) (by simpa using hq) (by rw [getElem!_pos _ q (by simpa using hq), List.getElem_set_ne hpq]; rwa [getElem!_pos _ q hq] at hqv)
          refine last_ (i := 17) (N := none) #[true, true, true, true, true, true, true, true, true, true, true, true, true, true, true, true, true, true] rfl rfl (one_of HT_.out (by kernel_rfl)) (by decide) (fun K hK => ?_)
          refine skip_ (w1 := ?_) (by rfl) rfl ?_ ?_
          rotate_left
          · go_simp
            rfl
          refine hK.out _ _ ?_
          clear hK K x0 x1 x2 x3 x4 x5
          obtain ⟨W2, hW2⟩ : ∃ W2, W2 = W1.setCells g (q * 3) (encN u) := ⟨_, rfl⟩
          rw [show ((W1.setCell ⟨g, q * 3, none⟩ (.string u.f0)).setCell ⟨g, q * 3 + 1, none⟩ (.int .i64 u.f1)).setCell ⟨g, q * 3 + 2, none⟩ (.int .i64 u.f2) = W2 from hW2.symm]
          have hR2 : RowAt W2 g cap ((L.set p v).set q u) := by rw [hW2]; exact hR1.put (by simpa using hq) u
          have hG2 : wr.grownBy W2 (some g) := by rw [hW2]; exact hG1.andThen (row' := some g) (put_grown W1 g (q * 3) _) (fun j hj => .inr hj)
          clear hW2
          refine done_ (done_of HT_.out (by kernel_rfl)) ?_
          clear j6 j8
          go_wp2
          go_roundg (t - (d + 1))
          case measure => omega
          case rel => exact ⟨d + 1, by have := HP.out; first | rfl | (congr 1; omega), by omega, Nat.le_refl _, ⟨by rw [hu, ← HFIN.out]; exact hR2⟩, ⟨HGW.out.andThen (row' := some g) hG2 (fun j hj => .inr hj)⟩⟩
        · have hdt : d = t := by omega
          subst hdt
          go_wp2
          refine bodyPost_ret (results_none rfl _ _ _) rfl ?_
          exact ⟨rfl, d, hty, HZ.out.1, HZ.out.2, HW.out, HG.out⟩
theorem idx_ahead (P X S : List Nd) (y : Nd) (s : Nat) (hs : s < X.length) : (P ++ (X ++ y :: S))[P.length + s]! = X[s] := by
  rw [getElem!_pos _ _ (by simp; omega), List.getElem_append_right (by omega)]
  have e : P.length + s - P.length = s := by omega
  simp only [e]
  rw [List.getElem_append_left hs]
set_option maxHeartbeats 16000000 in
/-- One that stands alone behind a run goes to its place. -/
theorem merge_right (g cap a m b n : Nat) (P X S : List Nd) (y : Nd) (w : World) (h : RowAt w g cap (P ++ (X ++ y :: S))) (ha : P.length = a) (hm : a + X.length = m) (hb : m + 1 = b) (hx2 : X.length ≠ 1) (hn : (P ++ (X ++ y :: S)).length = n) (hlen : n ≤ 100000) :
    Calls Try.prog 74 #[.slice (some ⟨g, 0, none⟩) n cap, .int .i64 a, .int .i64 m, .int .i64 b, .func (.func 42) #[] #[]] w fun e w' => e = .returned (.tuple #[]) ∧ ∃ i, i ≤ X.length ∧ (∀ x, (X.take i).getLast? = some x → ltN y x = false) ∧ (∀ x, (X.drop i).head? = some x → ltN y x = true) ∧ RowAt w' g cap (P ++ X.take i ++ y :: (X.drop i ++ S)) ∧ w.grownBy w' (some g) := by
  have HR := Aside0.mk h
  have hma : (m : Int) - (a : Int) = (X.length : Int) := by omega
  have hma1 : ((X.length : Int) == 1) = false := beq_eq_false_iff_ne.mpr (by omega)
  have hbm : (b : Int) - (m : Int) = 1 := by omega
  have hn' : P.length + X.length + 1 + S.length = n := by rw [← hn]; simp; omega
  have hmn : m < n := by omega
  have hmn' : (m : Int) < (n : Int) := by omega
  have hym : (P ++ (X ++ y :: S))[m]! = y := by rw [show P ++ (X ++ y :: S) = (P ++ X) ++ y :: S by simp, show m = (P ++ X).length by simp; omega]; exact get_mid _ _ _
  have HN := Aside0.mk hn
  clear h hn
  go_enter Try.func74, Try.ntmps74
  go_wp2
  go_loopg [14, 15] n (fun gg v14 v15 wr => ∃ i j : Nat, v14 = .int .i64 i ∧ v15 = .int .i64 j ∧ a ≤ i ∧ i ≤ j ∧ j ≤ m ∧ j - i ≤ gg ∧ Aside0 (i = a ∨ ltN y (P ++ (X ++ y :: S))[i - 1]! = false) ∧ Aside0 (j = m ∨ ltN y (P ++ (X ++ y :: S))[j]! = true) ∧ Aside0 (RowAt wr g cap (P ++ (X ++ y :: S))) ∧ Aside0 (w.grownBy wr (some g)))
  case atStart => exact ⟨a, m, rfl, rfl, Nat.le_refl _, by omega, Nat.le_refl _, by omega, ⟨.inl rfl⟩, ⟨.inl rfl⟩, HR, ⟨same_grown⟩⟩
  case round =>
    obtain ⟨i, j, rfl, rfl, h1, h2, h3, hg, HI, HJ, HW, HG⟩ := hrel
    by_cases hlt : i < j
    · have b2 : decide ((i : Int) < (j : Int)) = true := decide_eq_true (by omega)
      obtain ⟨k, hk⟩ : ∃ k, (i + j) / 2 = k := ⟨_, rfl⟩
      have e1 : ((i : Int) + (j : Int)) / 2 = (k : Int) := by omega
      have hkn : k < n := by omega
      have hkn' : (k : Int) < (n : Int) := by omega
      obtain ⟨x, hx⟩ : ∃ x, (P ++ (X ++ y :: S))[k]! = x := ⟨_, rfl⟩
      have HS : Aside0 (∀ W : World, Gr wr W → Two W g m k y x) := ⟨fun W hW => Two.of ((HW.out.gr hW).at_ (by rw [HN.out]; exact hmn) hym) ((HW.out.gr hW).at_ (by rw [HN.out]; omega) hx)⟩
      have HK := Aside0.mk (And.intro hk (And.intro hlt hg))
      have HX := Aside0.mk hx
      have hv0 := Gr.refl wr
      have hcall := Sorted1.gr y x
      clear hx hk
      go_upto_region 17 with (fail)
      cases hc : ltN y x with
      | true =>
        have hcc := cmp_lt' y x true hc
        go_region_held3 (fun W => W.cell? ⟨g, m * 3, none⟩ = some (.string y.f0) ∧ W.cell? ⟨g, m * 3 + 1, none⟩ = some (.int .i64 y.f1) ∧ W.cell? ⟨g, m * 3 + 2, none⟩ = some (.int .i64 y.f2) ∧ W.cell? ⟨g, k * 3, none⟩ = some (.string x.f0) ∧ W.cell? ⟨g, k * 3 + 1, none⟩ = some (.int .i64 x.f1) ∧ W.cell? ⟨g, k * 3 + 2, none⟩ = some (.int .i64 x.f2)) (exact HS.out _ (by repeat (first | assumption | apply Gr.drew | apply Gr.alloc))) (first | (go_at_call 42; refine (hcall _).mono ?_; rintro e w1 ⟨rfl, hd1⟩; have hb1 : Gr wr w1 := Gr.trans (by repeat (first | assumption | apply Gr.drew | apply Gr.alloc)) hd1; clear hd1))
        go_wp2
        go_roundg (k - i)
        case measure => have := HK.out; omega
        case rel =>
          have hk := HK.out
          exact ⟨i, k, rfl, rfl, h1, by omega, by omega, Nat.le_refl _, HI, ⟨.inr (by rw [HX.out]; exact hc)⟩, ⟨HW.out.gr hb1⟩, ⟨HG.out.andThen (row' := some g) (gr_grown hb1) (fun j hj => .inr hj)⟩⟩
      | false =>
        have hcc := cmp_lt' y x false hc
        go_region_held3 (fun W => W.cell? ⟨g, m * 3, none⟩ = some (.string y.f0) ∧ W.cell? ⟨g, m * 3 + 1, none⟩ = some (.int .i64 y.f1) ∧ W.cell? ⟨g, m * 3 + 2, none⟩ = some (.int .i64 y.f2) ∧ W.cell? ⟨g, k * 3, none⟩ = some (.string x.f0) ∧ W.cell? ⟨g, k * 3 + 1, none⟩ = some (.int .i64 x.f1) ∧ W.cell? ⟨g, k * 3 + 2, none⟩ = some (.int .i64 x.f2)) (exact HS.out _ (by repeat (first | assumption | apply Gr.drew | apply Gr.alloc))) (first | (go_at_call 42; refine (hcall _).mono ?_; rintro e w1 ⟨rfl, hd1⟩; have hb1 : Gr wr w1 := Gr.trans (by repeat (first | assumption | apply Gr.drew | apply Gr.alloc)) hd1; clear hd1))
        go_wp2
        go_roundg (j - (k + 1))
        case measure => have := HK.out; omega
        case rel =>
          have hk := HK.out
          exact ⟨k + 1, j, by go_num, rfl, by omega, by omega, h3, Nat.le_refl _, ⟨.inr (by rw [Nat.add_sub_cancel, HX.out]; exact hc)⟩, HJ, ⟨HW.out.gr hb1⟩, ⟨HG.out.andThen (row' := some g) (gr_grown hb1) (fun j hj => .inr hj)⟩⟩
    · have b2 : decide ((i : Int) < (j : Int)) = false := decide_eq_false (by omega)
      have hij : i = j := by omega
      subst hij
      obtain ⟨s, hs⟩ : ∃ s, i - a = s := ⟨_, rfl⟩
      have hsx : s ≤ X.length := by omega
      have HZ := Aside0.mk (show (∀ x, (X.take s).getLast? = some x → ltN y x = false) ∧ (∀ x, (X.drop s).head? = some x → ltN y x = true) from by
        refine ⟨fun x hx => ?_, fun x hx => ?_⟩
        · have hs0 : 0 < s := by
            rcases Nat.eq_zero_or_pos s with e | e
            · rw [e] at hx; simp at hx
            · exact e
          rcases HI.out with e | e
          · omega
          · have e2 : (P ++ (X ++ y :: S))[i - 1]! = X[s - 1] := by rw [show i - 1 = P.length + (s - 1) by omega]; exact idx_ahead P X S y (s - 1) (by omega)
            rw [List.getLast?_eq_getElem?, List.length_take, Nat.min_eq_left hsx, List.getElem?_take, if_pos (by omega), List.getElem?_eq_getElem (by omega)] at hx
            injection hx with hx
            rw [e2, hx] at e
            exact e
        · have hs0 : s < X.length := by
            rcases Nat.lt_or_ge s X.length with e | e
            · exact e
            · rw [List.drop_eq_nil_of_le e] at hx; cases hx
          rcases HJ.out with e | e
          · omega
          · have e2 : (P ++ (X ++ y :: S))[i]! = X[s] := by rw [show i = P.length + s by omega]; exact idx_ahead P X S y s hs0
            rw [List.head?_drop, List.getElem?_eq_getElem hs0] at hx
            injection hx with hx
            rw [e2, hx] at e
            exact e)
      have hi1 : (i : Int) = ((a + s : Nat) : Int) := by omega
      have hm1 : (m : Int) = ((a + X.length : Nat) : Int) := by omega
      clear HI HJ h1 h2 h3 hg hlt
      go_wp2
      go_loopg [17] n (fun gg v17 wq => ∃ d : Nat, v17 = .int .i64 ((a + d : Nat) : Int) ∧ s ≤ d ∧ d ≤ X.length ∧ d - s ≤ gg ∧ Aside0 (RowAt wq g cap (P ++ X.take d ++ y :: (X.drop d ++ S))) ∧ Aside0 (w.grownBy wq (some g)))
      case atStart => exact ⟨X.length, by rw [hm1], hsx, Nat.le_refl _, by omega, ⟨by simpa using HW.out⟩, HG⟩
      case round =>
        clear HW HG
        rename World => wr
        obtain ⟨d, rfl, hd, hdx, hgd, HW, HG⟩ := hrel
        by_cases hlt : s < d
        · obtain ⟨d, rfl⟩ : ∃ d', d = d' + 1 := ⟨d - 1, by omega⟩
          have hdy : d < X.length := by omega
          obtain ⟨v, hv⟩ : ∃ v, X[d] = v := ⟨_, rfl⟩
          have hD : X.drop d = v :: X.drop (d + 1) := by rw [← hv]; exact List.drop_eq_getElem_cons hdy
          have hT1 : X.take (d + 1) = X.take d ++ [v] := by rw [← hv]; exact List.take_succ_eq_append_getElem hdy
          have hRw0 := HW.out
          rw [hT1] at hRw0
          have hRw : RowAt wr g cap (P ++ X.take d ++ v :: ([] ++ y :: (X.drop (d + 1) ++ S))) := by simpa using hRw0
          obtain ⟨_, s1, s3, s2⟩ := set_two (P ++ X.take d) [] (X.drop (d + 1) ++ S) v y
          have hl1 : (P ++ X.take d).length = a + d := by simp; omega
          obtain ⟨p, hp0⟩ : ∃ p, a + (d + 1) = p := ⟨_, rfl⟩
          obtain ⟨q, hq0⟩ : ∃ q, a + d = q := ⟨_, rfl⟩
          rw [List.length_nil, Nat.add_zero, hl1, show a + d + 1 = p by omega] at s1 s2
          rw [hl1, hq0] at s3
          rw [hq0] at s1
          have hfin : P ++ X.take d ++ y :: ([] ++ v :: (X.drop (d + 1) ++ S)) = P ++ X.take d ++ y :: (X.drop d ++ S) := by rw [hD]; simp
          rw [hfin] at s1
          have hll : (P ++ X.take d ++ v :: ([] ++ y :: (X.drop (d + 1) ++ S))).length = n := by simp; omega
          have hp : p < (P ++ X.take d ++ v :: ([] ++ y :: (X.drop (d + 1) ++ S))).length := by omega
          have hq : q < (P ++ X.take d ++ v :: ([] ++ y :: (X.drop (d + 1) ++ S))).length := by omega
          have HFIN := Aside0.mk s1
          have hpu := s2
          have hqv := s3
          have hpq : p ≠ q := by omega
          have hpn : (p : Int) < (n : Int) := by omega
          have hqn : (q : Int) < (n : Int) := by omega
          have hpt : ((a + s : Nat) : Int) < (p : Int) := by omega
          have e9 : (p : Int) - 1 = (q : Int) := by omega
          have hqb : q ≤ 100000 := by omega
          have HGW := HG
          clear hfin hv hD hT1 hRw0 s1 s2 s3 hl1 HG HW hm1
          rw [hp0]
          have HP := Aside0.mk (And.intro hp0 hq0)
          clear hp0 hq0
          rw [← hi1] at hpt
          generalize P ++ X.take d ++ v :: ([] ++ y :: (X.drop (d + 1) ++ S)) = L at *
          obtain ⟨u, hu⟩ : ∃ u, y = u := ⟨_, rfl⟩
          rw [hu] at hpu HFIN
          go_upto_region 23 with (fail)
          have j6 := wrap_nat hqb
          have j8 := wrapI_nat hqb
          have hRd : RowAt wr.drew g cap L := ⟨hRw.own, hRw.len, hRw.cap⟩
          have hGd : wr.grownBy wr.drew (some g) := below_grown (below_drew1 (Below.refl _ wr)) _
          have hS0 : AtP wr.drew g p u ∧ AtP wr.drew g q v := ⟨hRd.at_ hp hpu, hRd.at_ hq hqv⟩
          refine start_ (n := 18) (S := fun X => AtP X g p u ∧ AtP X g q v) (ds := [15, 17]) #[false, false, false, false, false, false, false, false, false, false, false, false, false, false, false, false, false, false] (by kernel_rfl) rfl rfl hS0 (fun hHeld => ?_)
          refine with_tabW symM.tab23 symM.bits23 (fun HT_ HW_ => ?_)
          clear hS0
          generalize wr.drew = Uw at *
          refine pure_ (i := 0) (N := some 113) (v := ?_) (a' := ?_) #[true, false, false, false, false, false, false, false, false, false, false, false, false, false, false, false, false, false] rfl rfl (any_of HT_.out (by kernel_rfl)) (fun _ _ _ h => h) (Or.inl ⟨by rfl, ?_⟩) ?_ ?_
          rotate_left
          · intro w'
            go_simp
            with_reducible rfl
          rotate_left
          · simp only [Act.put, List.setIfInBounds_toArray, List.set_cons_zero, List.set_cons_succ, i64_w, i32_w]
            rfl
          refine pure_ (i := 1) (N := some 114) (v := ?_) (a' := ?_) #[true, true, false, false, false, false, false, false, false, false, false, false, false, false, false, false, false, false] rfl rfl (any_of HT_.out (by kernel_rfl)) (fun _ _ _ h => h) (Or.inl ⟨by rfl, ?_⟩) ?_ ?_
          rotate_left
          · intro w'
            go_simp
            with_reducible rfl
          rotate_left
          · simp only [Act.put, List.setIfInBounds_toArray, List.set_cons_zero, List.set_cons_succ, i64_w, i32_w]
            rfl
          refine pure_ (i := 2) (N := some 115) (v := ?_) (a' := ?_) #[true, true, true, false, false, false, false, false, false, false, false, false, false, false, false, false, false, false] rfl rfl (any_of HT_.out (by kernel_rfl)) (fun _ _ _ h => h) (Or.inl ⟨by rfl, ?_⟩) ?_ ?_
          rotate_left
          · intro w'
            go_simp
            with_reducible rfl
          rotate_left
          · simp only [Act.put, List.setIfInBounds_toArray, List.set_cons_zero, List.set_cons_succ, i64_w, i32_w]
            rfl
          refine pure_ (i := 3) (N := some 116) (v := ?_) (a' := ?_) #[true, true, true, true, false, false, false, false, false, false, false, false, false, false, false, false, false, false] rfl rfl (any_of HT_.out (by kernel_rfl)) (fun _ _ _ h => h) (Or.inl ⟨by rfl, ?_⟩) ?_ ?_
          rotate_left
          · intro w'
            go_simp
            with_reducible rfl
          rotate_left
          · simp only [Act.put, List.setIfInBounds_toArray, List.set_cons_zero, List.set_cons_succ, i64_w, i32_w]
            rfl
          refine pure_ (i := 4) (N := some 117) (v := ?_) (a' := ?_) #[true, true, true, true, true, false, false, false, false, false, false, false, false, false, false, false, false, false] rfl rfl (any_of HT_.out (by kernel_rfl)) (fun _ _ _ h => h) (Or.inl ⟨by rfl, ?_⟩) ?_ ?_
          rotate_left
          · intro w'
            go_simp
            with_reducible rfl
          rotate_left
          · simp only [Act.put, List.setIfInBounds_toArray, List.set_cons_zero, List.set_cons_succ, i64_w, i32_w]
            rfl
          refine pure_ (i := 5) (N := some 118) (v := ?_) (a' := ?_) #[true, true, true, true, true, true, false, false, false, false, false, false, false, false, false, false, false, false] rfl rfl (any_of HT_.out (by kernel_rfl)) (fun _ _ _ h => h) (Or.inl ⟨by rfl, ?_⟩) ?_ ?_
          rotate_left
          · intro w'
            go_simp
            with_reducible rfl
          rotate_left
          · simp only [Act.put, List.setIfInBounds_toArray, List.set_cons_zero, List.set_cons_succ, i64_w, i32_w]
            rfl
          refine pure_ (i := 6) (N := some 119) (v := ?_) (a' := ?_) #[true, true, true, true, true, true, true, false, false, false, false, false, false, false, false, false, false, false] rfl rfl (any_of HT_.out (by kernel_rfl)) (fun _ _ _ h => h) (Or.inl ⟨by rfl, ?_⟩) ?_ ?_
          rotate_left
          · intro w'
            go_simp
            with_reducible rfl
          rotate_left
          · simp only [Act.put, List.setIfInBounds_toArray, List.set_cons_zero, List.set_cons_succ, i64_w, i32_w]
            rfl
          refine pure_ (i := 7) (N := some 120) (v := ?_) (a' := ?_) #[true, true, true, true, true, true, true, true, false, false, false, false, false, false, false, false, false, false] rfl rfl (any_of HT_.out (by kernel_rfl)) (fun _ _ _ h => h) (Or.inl ⟨by rfl, ?_⟩) ?_ ?_
          rotate_left
          · intro w'
            go_simp
            with_reducible rfl
          rotate_left
          · simp only [Act.put, List.setIfInBounds_toArray, List.set_cons_zero, List.set_cons_succ, i64_w, i32_w]
            rfl
          refine pure_ (i := 8) (N := some 121) (v := ?_) (a' := ?_) #[true, true, true, true, true, true, true, true, true, false, false, false, false, false, false, false, false, false] rfl rfl (any_of HT_.out (by kernel_rfl)) (fun _ _ _ h => h) (Or.inl ⟨by rfl, ?_⟩) ?_ ?_
          rotate_left
          · intro w'
            go_simp
            with_reducible rfl
          rotate_left
          · simp only [Act.put, List.setIfInBounds_toArray, List.set_cons_zero, List.set_cons_succ, i64_w, i32_w]
            rfl
          refine take_ (i := 9) (N := some 122) (v := ?_) (a' := ?_) #[true, true, true, true, true, true, true, true, true, true, false, false, false, false, false, false, false, false] rfl rfl (take_ofW HT_.out HW_.out (by kernel_rfl)) (fun _ _ _ h => h) (Or.inl ⟨by rfl, ?_⟩) hHeld ?_ ?_
          rotate_left
          · rintro w' ⟨⟨x0, x1, x2, x3, x4, x5⟩, ⟨y0, y1, y2, y3, y4, y5⟩⟩
            go_simp
            with_reducible rfl
          rotate_left
          · simp only [Act.put, List.setIfInBounds_toArray, List.set_cons_zero, List.set_cons_succ, i64_w, i32_w]
            rfl
          refine pure_ (i := 10) (N := some 123) (v := ?_) (a' := ?_) #[true, true, true, true, true, true, true, true, true, true, true, false, false, false, false, false, false, false] rfl rfl (any_of HT_.out (by kernel_rfl)) (fun _ _ _ h => h) (Or.inl ⟨by rfl, ?_⟩) ?_ ?_
          rotate_left
          · intro w'
            go_simp
            with_reducible rfl
          rotate_left
          · simp only [Act.put, List.setIfInBounds_toArray, List.set_cons_zero, List.set_cons_succ, i64_w, i32_w]
            rfl
          refine pure_ (i := 11) (N := some 124) (v := ?_) (a' := ?_) #[true, true, true, true, true, true, true, true, true, true, true, true, false, false, false, false, false, false] rfl rfl (any_of HT_.out (by kernel_rfl)) (fun _ _ _ h => h) (Or.inl ⟨by rfl, ?_⟩) ?_ ?_
          rotate_left
          · intro w'
            go_simp
            with_reducible rfl
          rotate_left
          · simp only [Act.put, List.setIfInBounds_toArray, List.set_cons_zero, List.set_cons_succ, i64_w, i32_w]
            rfl
          refine pure_ (i := 12) (N := some 125) (v := ?_) (a' := ?_) #[true, true, true, true, true, true, true, true, true, true, true, true, true, false, false, false, false, false] rfl rfl (any_of HT_.out (by kernel_rfl)) (fun _ _ _ h => h) (Or.inl ⟨by rfl, ?_⟩) ?_ ?_
          rotate_left
          · intro w'
            go_simp
            with_reducible rfl
          rotate_left
          · simp only [Act.put, List.setIfInBounds_toArray, List.set_cons_zero, List.set_cons_succ, i64_w, i32_w]
            rfl
          refine take_ (i := 13) (N := some 126) (v := ?_) (a' := ?_) #[true, true, true, true, true, true, true, true, true, true, true, true, true, true, false, false, false, false] rfl rfl (take_ofW HT_.out HW_.out (by kernel_rfl)) (fun _ _ _ h => h) (Or.inl ⟨by rfl, ?_⟩) hHeld ?_ ?_
          rotate_left
          · rintro w' ⟨⟨x0, x1, x2, x3, x4, x5⟩, ⟨y0, y1, y2, y3, y4, y5⟩⟩
            go_simp
            with_reducible rfl
          rotate_left
          · simp only [Act.put, List.setIfInBounds_toArray, List.set_cons_zero, List.set_cons_succ, i64_w, i32_w]
            rfl
          refine pure_ (i := 14) (N := some 127) (v := ?_) (a' := ?_) #[true, true, true, true, true, true, true, true, true, true, true, true, true, true, true, false, false, false] rfl rfl (any_of HT_.out (by kernel_rfl)) (fun _ _ _ h => h) (Or.inl ⟨by rfl, ?_⟩) ?_ ?_
          rotate_left
          · intro w'
            go_simp
            with_reducible rfl
          rotate_left
          · simp only [Act.put, List.setIfInBounds_toArray, List.set_cons_zero, List.set_cons_succ, i64_w, i32_w]
            rfl
          obtain ⟨x0, x1, x2, x3, x4, x5⟩ := hHeld.1
          refine last_ (i := 15) (N := none) #[true, true, true, true, true, true, true, true, true, true, true, true, true, true, true, true, false, false] rfl rfl (one_of HT_.out (by kernel_rfl)) (by decide) (fun K hK => ?_)
          refine skip_ (w1 := ?_) (by rfl) rfl ?_ ?_
          rotate_left
          · go_simp
            rfl
          refine hK.out _ _ ?_
          clear hK K x0 x1 x2 x3 x4 x5
          obtain ⟨W1, hW1⟩ : ∃ W1, W1 = Uw.setCells g (p * 3) (encN v) := ⟨_, rfl⟩
          rw [show ((Uw.setCell ⟨g, p * 3, none⟩ (.string v.f0)).setCell ⟨g, p * 3 + 1, none⟩ (.int .i64 v.f1)).setCell ⟨g, p * 3 + 2, none⟩ (.int .i64 v.f2) = W1 from hW1.symm]
          have hR1 : RowAt W1 g cap (L.set p v) := by rw [hW1]; exact hRd.put hp v
          have hG1 : wr.grownBy W1 (some g) := by rw [hW1]; exact hGd.andThen (row' := some g) (put_grown Uw g (p * 3) _) (fun j hj => .inr hj)
          clear hW1
          refine pure_ (i := 16) (N := some 128) (v := ?_) (a' := ?_) #[true, true, true, true, true, true, true, true, true, true, true, true, true, true, true, true, true, false] rfl rfl (any_of HT_.out (by kernel_rfl)) (fun _ _ _ h => h) (Or.inl ⟨by rfl, ?_⟩) ?_ ?_
          rotate_left
          · intro w'
            go_simp
            with_reducible rfl
          rotate_left
          · simp only [Act.put, List.setIfInBounds_toArray, List.set_cons_zero, List.set_cons_succ, i64_w, i32_w]
            rfl
          obtain ⟨x0, x1, x2, x3, x4, x5⟩ := hR1.at_ (p := q) (x := v) (by simpa using hq) (by rw [getElem!_pos _ q (by simpa using hq), List.getElem_set_ne hpq]; rwa [getElem!_pos _ q hq] at hqv)
          refine last_ (i := 17) (N := none) #[true, true, true, true, true, true, true, true, true, true, true, true, true, true, true, true, true, true] rfl rfl (one_of HT_.out (by kernel_rfl)) (by decide) (fun K hK => ?_)
          refine skip_ (w1 := ?_) (by rfl) rfl ?_ ?_
          rotate_left
          · go_simp
            rfl
          refine hK.out _ _ ?_
          clear hK K x0 x1 x2 x3 x4 x5
          obtain ⟨W2, hW2⟩ : ∃ W2, W2 = W1.setCells g (q * 3) (encN u) := ⟨_, rfl⟩
          rw [show ((W1.setCell ⟨g, q * 3, none⟩ (.string u.f0)).setCell ⟨g, q * 3 + 1, none⟩ (.int .i64 u.f1)).setCell ⟨g, q * 3 + 2, none⟩ (.int .i64 u.f2) = W2 from hW2.symm]
          have hR2 : RowAt W2 g cap ((L.set p v).set q u) := by rw [hW2]; exact hR1.put (by simpa using hq) u
          have hG2 : wr.grownBy W2 (some g) := by rw [hW2]; exact hG1.andThen (row' := some g) (put_grown W1 g (q * 3) _) (fun j hj => .inr hj)
          clear hW2
          refine done_ (done_of HT_.out (by kernel_rfl)) ?_
          clear j6 j8
          go_wp2
          go_roundg (d - s)
          case measure => omega
          case rel => exact ⟨d, by have := HP.out; first | rfl | (congr 1; omega), by omega, by omega, Nat.le_refl _, ⟨by rw [hu, ← HFIN.out]; exact hR2⟩, ⟨HGW.out.andThen (row' := some g) hG2 (fun j hj => .inr hj)⟩⟩
        · have hdt : d = s := by omega
          subst hdt
          have b9 : decide (((a + d : Nat) : Int) > (i : Int)) = false := decide_eq_false (by omega)
          go_wp2
          refine bodyPost_ret (results_none rfl _ _ _) rfl ?_
          exact ⟨rfl, d, hsx, HZ.out.1, HZ.out.2, HW.out, HG.out⟩
end Go.Proofs.Ytgdnljhndjlefaa.QNeedFits
