/- Two runs of a row change places: the library's swapRange and rotate. No conditions beyond those that each theorem names. -/
import Derived.Test.YtgdnljhndjlefaaQNeedFitsNeedSort
import Derived.Deep.RegionLaw
namespace Go.Proofs.Ytgdnljhndjlefaa.QNeedFits
open Go.RowKit Go.Proofs.Ytgdnljhndjlefaa.PNeedFits Go.Proofs.YtgdnljhndjlefaaW.PrintWords Go.Proofs.YtgdnljhndjlefaaW.PrintLast Go.Proofs.YtgdnljhndjlefaaW.PrintMore Go.Proofs.Ytgdnljhndjlefaa.MMaps
set_option linter.unusedVariables false
set_option linter.unusedSimpArgs false
set_option maxRecDepth 100000
theorem wrap_nat {p : Nat} (h : p ≤ 100000) : wrap64 (p : Int) = (p : Int) := wrap64_id (by omega) (by omega)
theorem wrapI_nat {p : Nat} (h : p ≤ 100000) : IntKind.i64.wrap (p : Int) = (p : Int) := by rw [i64_w, wrap_nat h]
theorem put_grown (W : World) (g o : Nat) (vs : List Value) : W.grownBy (W.setCells g o vs) (some g) := by
  obtain ⟨h1, h2, h3, h4⟩ := setCells_same g vs o W
  exact ⟨h1, h2, h3, by rw [h4]; exact Nat.le_refl _, fun k hk hne => setCells_far vs o k (by simpa using hne)⟩
/-- What place p of a row holds. -/
structure AtP (w : World) (g p : Nat) (x : Nd) : Prop where
  c0 : w.cell? ⟨g, p * 3, none⟩ = some (.string x.f0)
  c1 : w.cell? ⟨g, p * 3 + 1, none⟩ = some (.int .i64 x.f1)
  c2 : w.cell? ⟨g, p * 3 + 2, none⟩ = some (.int .i64 x.f2)
  z0 : w.frozen? ⟨g, p * 3, none⟩ = false
  z1 : w.frozen? ⟨g, p * 3 + 1, none⟩ = false
  z2 : w.frozen? ⟨g, p * 3 + 2, none⟩ = false
theorem RowAt.at_ {w : World} {g cap : Nat} {L : List Nd} (h : RowAt w g cap L) {p : Nat} {x : Nd} (hp : p < L.length) (hx : L[p]! = x) : AtP w g p x := by
  obtain ⟨cur, h1, hsz, hc⟩ := h.own
  have e : ∀ c, c < 3 → w.cell? ⟨g, p * 3 + c, none⟩ = some ((encN x)[c]!) := fun c hcc => by
    rw [blk_cell h1, hc (p * 3 + c) (by omega), show (p * 3 + c) / 3 = p by omega, show (p * 3 + c) % 3 = c by omega, hx]
  exact ⟨e 0 (by omega), e 1 (by omega), e 2 (by omega), blk_frozen h1 _, blk_frozen h1 _, blk_frozen h1 _⟩
theorem RowAt.put {w : World} {g cap : Nat} {L : List Nd} (h : RowAt w g cap L) {p : Nat} (hp : p < L.length) (y : Nd) : RowAt (w.setCells g (p * 3) (encN y)) g cap (L.set p y) := by
  obtain ⟨cur, h1, hsz, hc⟩ := h.own
  have hl := h.len
  obtain ⟨cur', k1, k2, k3⟩ := setCells_row (encN y) (p * 3) w cur h1 (by show p * 3 + 3 ≤ cur.size; omega)
  refine ⟨⟨cur', k1, by rw [k2, hsz], fun t ht => ?_⟩, by rw [List.length_set]; exact hl, h.cap⟩
  rw [List.length_set] at ht
  rw [← Array.getElem?_toList, k3]
  have hcl : cur.toList.length = cap * 3 := by rw [Array.length_toList, hsz]
  have h3 : (encN y).length = 3 := rfl
  by_cases q1 : t < p * 3
  · rw [List.append_assoc, List.getElem?_append_left (by rw [List.length_take]; omega), List.getElem?_take, if_pos q1, Array.getElem?_toList, hc t ht]
    rw [getElem!_pos L (t / 3) (by omega), getElem!_pos (L.set p y) (t / 3) (by rw [List.length_set]; omega), List.getElem_set_ne (by omega)]
  · by_cases q2 : t < p * 3 + 3
    · rw [List.append_assoc, List.getElem?_append_right (by rw [List.length_take]; omega), List.length_take, List.getElem?_append_left (by rw [h3]; omega)]
      have e1 : t / 3 = p := by omega
      rw [getElem!_pos (L.set p y) (t / 3) (by rw [List.length_set]; omega)]
      simp only [e1, List.getElem_set_self]
      rw [show t - min (p * 3) cur.toList.length = t % 3 by omega, List.getElem?_eq_getElem (by rw [h3]; omega), getElem!_pos (encN y) (t % 3) (by rw [h3]; omega)]
    · rw [List.getElem?_append_right (by rw [List.length_append, List.length_take, h3]; omega), List.length_append, List.length_take, h3, List.getElem?_drop, show p * 3 + 3 + (t - (min (p * 3) cur.toList.length + 3)) = t by omega, Array.getElem?_toList, hc t ht]
      rw [getElem!_pos L (t / 3) (by omega), getElem!_pos (L.set p y) (t / 3) (by rw [List.length_set]; omega), List.getElem_set_ne (by omega)]
theorem get_mid (A R : List Nd) (x : Nd) : (A ++ x :: R)[A.length]! = x := by
  rw [getElem!_pos _ _ (by simp)]
  simp
theorem set_mid (A R : List Nd) (x y : Nd) : (A ++ x :: R).set A.length y = A ++ y :: R := by
  rw [List.set_append_right _ _ (Nat.le_refl _), Nat.sub_self]
  rfl
/-- Two places of a list, the first one ahead, change what they hold. -/
theorem set_two (A B C : List Nd) (u v : Nd) : ((A ++ u :: (B ++ v :: C)).set A.length v).set (A.length + 1 + B.length) u = A ++ v :: (B ++ u :: C) ∧ ((A ++ u :: (B ++ v :: C)).set (A.length + 1 + B.length) u).set A.length v = A ++ v :: (B ++ u :: C) ∧ (A ++ u :: (B ++ v :: C))[A.length]! = u ∧ (A ++ u :: (B ++ v :: C))[A.length + 1 + B.length]! = v := by
  have e1 : A ++ u :: (B ++ v :: C) = (A ++ u :: B) ++ v :: C := by simp
  have e2 : A ++ v :: (B ++ v :: C) = (A ++ v :: B) ++ v :: C := by simp
  have e3 : (A ++ u :: B).length = A.length + 1 + B.length := by simp; omega
  have e4 : (A ++ v :: B).length = A.length + 1 + B.length := by simp; omega
  refine ⟨?_, ?_, get_mid _ _ _, ?_⟩
  · rw [set_mid, e2, ← e4, set_mid]; simp
  · rw [e1, ← e3, set_mid, show (A ++ u :: B) ++ u :: C = A ++ u :: (B ++ u :: C) by simp, set_mid]
  · rw [e1, ← e3]; exact get_mid _ _ _
def swapR.T3 : Bool × List (List Nat × List Nat) := (true, [([], []), ([], []), ([], []), ([1, 2], [1, 2]), ([], []), ([], []), ([], []), ([5, 6], [5, 6]), ([], []), ([], []), ([], []), ([9, 10], [9, 10]), ([8, 11], [8, 11]), ([12], [12]), ([], []), ([], []), ([], []), ([15, 16], [15, 16]), ([14, 17], [14, 17]), ([18], [18]), ([0, 3, 0, 1, 2, 3, 8, 9, 10, 11, 12, 13, 19], [0, 3]), ([20, 13, 0, 1, 2, 3, 8, 9, 10, 11, 12, 13, 19], [13, 20]), ([4, 7, 0, 1, 2, 3, 4, 5, 6, 7, 8, 9, 10, 11, 12, 13, 14, 15, 16, 17, 18, 19, 20, 21], [4, 7]), ([22, 19, 21, 0, 1, 2, 3, 4, 5, 6, 7, 8, 9, 10, 11, 12, 13, 14, 15, 16, 17, 18, 19, 20, 21], [19, 22])])
def swapR.B3 : List Nat := [0, 0, 0, 6, 0, 0, 0, 96, 0, 0, 0, 1536, 3840, 7936, 0, 0, 0, 98304, 245760, 507904, 1048335, 2096911, 4194303, 8388607]
theorem swapR.tab3 : rtab .any (opsOf Try.f86 3) = swapR.T3 := by kernel_rfl
theorem swapR.bits3 : waitsOk swapR.T3.2 swapR.B3 = true := by kernel_rfl
set_option maxHeartbeats 16000000 in
/-- Two runs of a row change places. -/
theorem swapRange.calls (g cap : Nat) (A U B V C : List Nd) (w : World) (hUV : U.length = V.length) (h : RowAt w g cap (A ++ U ++ B ++ V ++ C)) (hlen : (A ++ U ++ B ++ V ++ C).length ≤ 100000) :
    Calls Try.prog 86 #[.slice (some ⟨g, 0, none⟩) (A ++ U ++ B ++ V ++ C).length cap, .int .i64 A.length, .int .i64 ((A ++ U ++ B).length : Nat), .int .i64 U.length, .func (.func 42) #[] #[]] w fun e w' => e = .returned (.tuple #[]) ∧ RowAt w' g cap (A ++ V ++ B ++ U ++ C) ∧ w.grownBy w' (some g) := by
  obtain ⟨n, hn⟩ : ∃ n, (A ++ U ++ B ++ V ++ C).length = n := ⟨_, rfl⟩
  obtain ⟨b, hb⟩ : ∃ b, (A ++ U ++ B).length = b := ⟨_, rfl⟩
  have HR := Aside0.mk h
  rw [hn, hb]
  rw [hn] at hlen
  have hn' : A.length + U.length + B.length + V.length + C.length = n := by rw [← hn]; simp; omega
  have hb' : A.length + U.length + B.length = b := by rw [← hb]; simp; omega
  clear hn hb h
  go_enter Try.func86, Try.ntmps86
  go_wp2
  go_loopg [10] U.length (fun gg v10 wr => ∃ i : Nat, i ≤ U.length ∧ U.length - i ≤ gg ∧ v10 = .int .i64 i ∧ Aside0 (RowAt wr g cap (A ++ (V.take i ++ U.drop i) ++ B ++ (U.take i ++ V.drop i) ++ C) ∧ w.grownBy wr (some g)))
  case atStart => exact ⟨0, Nat.zero_le _, by omega, rfl, ⟨by simpa using HR.out, ⟨rfl, rfl, rfl, Nat.le_refl _, fun _ _ _ => rfl⟩⟩⟩
  case round =>
    obtain ⟨i, hi, hg, rfl, HS⟩ := hrel
    by_cases hlt : i < U.length
    · have b2 : decide ((i : Int) < (U.length : Int)) = true := decide_eq_true (by omega)
      have hiV : i < V.length := by omega
      obtain ⟨u, hu⟩ : ∃ u, U[i] = u := ⟨_, rfl⟩
      obtain ⟨v, hv⟩ : ∃ v, V[i] = v := ⟨_, rfl⟩
      have hU : U.drop i = u :: U.drop (i + 1) := by rw [← hu]; exact List.drop_eq_getElem_cons hlt
      have hV : V.drop i = v :: V.drop (i + 1) := by rw [← hv]; exact List.drop_eq_getElem_cons hiV
      have hU1 : U.take (i + 1) = U.take i ++ [u] := by rw [← hu]; exact List.take_succ_eq_append_getElem hlt
      have hV1 : V.take (i + 1) = V.take i ++ [v] := by rw [← hv]; exact List.take_succ_eq_append_getElem hiV
      have hSt := HS.out
      rw [hU, hV, show A ++ (V.take i ++ u :: U.drop (i + 1)) ++ B ++ (U.take i ++ v :: V.drop (i + 1)) ++ C = (A ++ V.take i) ++ u :: ((U.drop (i + 1) ++ B ++ U.take i) ++ v :: (V.drop (i + 1) ++ C)) by simp] at hSt
      have hgo : A ++ (V.take (i + 1) ++ U.drop (i + 1)) ++ B ++ (U.take (i + 1) ++ V.drop (i + 1)) ++ C = (A ++ V.take i) ++ v :: ((U.drop (i + 1) ++ B ++ U.take i) ++ u :: (V.drop (i + 1) ++ C)) := by rw [hU1, hV1]; simp
      have l1 : (A ++ V.take i).length = A.length + i := by simp; omega
      have l2 : (U.drop (i + 1) ++ B ++ U.take i).length + A.length + i + 1 = b + i := by simp; omega
      have l3 : (V.drop (i + 1) ++ C).length + (b + i) + 1 = n := by simp; omega
      generalize A ++ V.take i = A' at *
      generalize U.drop (i + 1) ++ B ++ U.take i = B' at *
      generalize V.drop (i + 1) ++ C = C' at *
      have HGO := Aside0.mk hgo
      clear hgo hU hV hU1 hV1 hu hv HS hiV
      obtain ⟨p, hp⟩ : ∃ p, A.length + i = p := ⟨_, rfl⟩
      obtain ⟨q, hq⟩ : ∃ q, b + i = q := ⟨_, rfl⟩
      have j1 : (A.length : Int) + (i : Int) = (p : Int) := by omega
      have j2 : (b : Int) + (i : Int) = (q : Int) := by omega
      have pb : p ≤ 100000 := by omega
      have qb : q ≤ 100000 := by omega
      have j3 : (p : Int) < (n : Int) := by omega
      have j4 : (q : Int) < (n : Int) := by omega
      have hlp : p < (A' ++ u :: (B' ++ v :: C')).length := by simp; omega
      have hlq : q < (A' ++ u :: (B' ++ v :: C')).length := by simp; omega
      obtain ⟨s1, _, s2, s3⟩ := set_two A' B' C' u v
      rw [l1, hp] at s2
      rw [show A'.length + 1 + B'.length = q by omega] at s1 s3
      rw [l1, hp] at s1
      rw [← s1] at HGO
      clear s1 hp hq l1 l2 l3
      obtain ⟨hRw, hGw⟩ := hSt
      have HGW := Aside0.mk hGw
      clear hGw
      generalize A' ++ u :: (B' ++ v :: C') = L at *
      have hp := hlp
      have hq := hlq
      have hpu := s2
      have hqv := s3
      have hpq : p ≠ q := by omega
      go_upto_region 3 with (fail)
      have j5 := wrap_nat pb
      have j6 := wrap_nat qb
      have j7 := wrapI_nat pb
      have j8 := wrapI_nat qb
      have hRd : RowAt wr.drew g cap L := ⟨hRw.own, hRw.len, hRw.cap⟩
      have hGd : wr.grownBy wr.drew (some g) := below_grown (below_drew1 (Below.refl _ wr)) _
      have hS0 : AtP wr.drew g p u ∧ AtP wr.drew g q v := ⟨hRd.at_ hp hpu, hRd.at_ hq hqv⟩
      refine start_ (n := 24) (S := fun X => AtP X g p u ∧ AtP X g q v) (ds := [21, 23]) #[false, false, false, false, false, false, false, false, false, false, false, false, false, false, false, false, false, false, false, false, false, false, false, false] (by kernel_rfl) rfl rfl hS0 (fun hHeld => ?_)
      refine with_tabW swapR.tab3 swapR.bits3 (fun HT_ HW_ => ?_)
      clear hS0
      generalize wr.drew = Uw at *
      refine pure_ (i := 0) (N := some 16) (v := ?_) (a' := ?_) #[true, false, false, false, false, false, false, false, false, false, false, false, false, false, false, false, false, false, false, false, false, false, false, false] rfl rfl (any_of HT_.out (by kernel_rfl)) (fun _ _ _ h => h) (Or.inl ⟨by rfl, ?_⟩) ?_ ?_
      rotate_left
      · intro w'
        go_simp
        with_reducible rfl
      rotate_left
      · simp only [Act.put, List.setIfInBounds_toArray, List.set_cons_zero, List.set_cons_succ, i64_w, i32_w]
        rfl
      refine pure_ (i := 1) (N := some 17) (v := ?_) (a' := ?_) #[true, true, false, false, false, false, false, false, false, false, false, false, false, false, false, false, false, false, false, false, false, false, false, false] rfl rfl (any_of HT_.out (by kernel_rfl)) (fun _ _ _ h => h) (Or.inl ⟨by rfl, ?_⟩) ?_ ?_
      rotate_left
      · intro w'
        go_simp
        with_reducible rfl
      rotate_left
      · simp only [Act.put, List.setIfInBounds_toArray, List.set_cons_zero, List.set_cons_succ, i64_w, i32_w]
        rfl
      refine pure_ (i := 2) (N := some 18) (v := ?_) (a' := ?_) #[true, true, true, false, false, false, false, false, false, false, false, false, false, false, false, false, false, false, false, false, false, false, false, false] rfl rfl (any_of HT_.out (by kernel_rfl)) (fun _ _ _ h => h) (Or.inl ⟨by rfl, ?_⟩) ?_ ?_
      rotate_left
      · intro w'
        go_simp
        with_reducible rfl
      rotate_left
      · simp only [Act.put, List.setIfInBounds_toArray, List.set_cons_zero, List.set_cons_succ, i64_w, i32_w]
        rfl
      refine pure_ (i := 3) (N := some 19) (v := ?_) (a' := ?_) #[true, true, true, true, false, false, false, false, false, false, false, false, false, false, false, false, false, false, false, false, false, false, false, false] rfl rfl (any_of HT_.out (by kernel_rfl)) (fun _ _ _ h => h) (Or.inl ⟨by rfl, ?_⟩) ?_ ?_
      rotate_left
      · intro w'
        go_simp
        with_reducible rfl
      rotate_left
      · simp only [Act.put, List.setIfInBounds_toArray, List.set_cons_zero, List.set_cons_succ, i64_w, i32_w]
        rfl
      refine pure_ (i := 4) (N := some 20) (v := ?_) (a' := ?_) #[true, true, true, true, true, false, false, false, false, false, false, false, false, false, false, false, false, false, false, false, false, false, false, false] rfl rfl (any_of HT_.out (by kernel_rfl)) (fun _ _ _ h => h) (Or.inl ⟨by rfl, ?_⟩) ?_ ?_
      rotate_left
      · intro w'
        go_simp
        with_reducible rfl
      rotate_left
      · simp only [Act.put, List.setIfInBounds_toArray, List.set_cons_zero, List.set_cons_succ, i64_w, i32_w]
        rfl
      refine pure_ (i := 5) (N := some 21) (v := ?_) (a' := ?_) #[true, true, true, true, true, true, false, false, false, false, false, false, false, false, false, false, false, false, false, false, false, false, false, false] rfl rfl (any_of HT_.out (by kernel_rfl)) (fun _ _ _ h => h) (Or.inl ⟨by rfl, ?_⟩) ?_ ?_
      rotate_left
      · intro w'
        go_simp
        with_reducible rfl
      rotate_left
      · simp only [Act.put, List.setIfInBounds_toArray, List.set_cons_zero, List.set_cons_succ, i64_w, i32_w]
        rfl
      refine pure_ (i := 6) (N := some 22) (v := ?_) (a' := ?_) #[true, true, true, true, true, true, true, false, false, false, false, false, false, false, false, false, false, false, false, false, false, false, false, false] rfl rfl (any_of HT_.out (by kernel_rfl)) (fun _ _ _ h => h) (Or.inl ⟨by rfl, ?_⟩) ?_ ?_
      rotate_left
      · intro w'
        go_simp
        with_reducible rfl
      rotate_left
      · simp only [Act.put, List.setIfInBounds_toArray, List.set_cons_zero, List.set_cons_succ, i64_w, i32_w]
        rfl
      refine pure_ (i := 7) (N := some 23) (v := ?_) (a' := ?_) #[true, true, true, true, true, true, true, true, false, false, false, false, false, false, false, false, false, false, false, false, false, false, false, false] rfl rfl (any_of HT_.out (by kernel_rfl)) (fun _ _ _ h => h) (Or.inl ⟨by rfl, ?_⟩) ?_ ?_
      rotate_left
      · intro w'
        go_simp
        with_reducible rfl
      rotate_left
      · simp only [Act.put, List.setIfInBounds_toArray, List.set_cons_zero, List.set_cons_succ, i64_w, i32_w]
        rfl
      refine pure_ (i := 8) (N := some 24) (v := ?_) (a' := ?_) #[true, true, true, true, true, true, true, true, true, false, false, false, false, false, false, false, false, false, false, false, false, false, false, false] rfl rfl (any_of HT_.out (by kernel_rfl)) (fun _ _ _ h => h) (Or.inl ⟨by rfl, ?_⟩) ?_ ?_
      rotate_left
      · intro w'
        go_simp
        with_reducible rfl
      rotate_left
      · simp only [Act.put, List.setIfInBounds_toArray, List.set_cons_zero, List.set_cons_succ, i64_w, i32_w]
        rfl
      refine pure_ (i := 9) (N := some 25) (v := ?_) (a' := ?_) #[true, true, true, true, true, true, true, true, true, true, false, false, false, false, false, false, false, false, false, false, false, false, false, false] rfl rfl (any_of HT_.out (by kernel_rfl)) (fun _ _ _ h => h) (Or.inl ⟨by rfl, ?_⟩) ?_ ?_
      rotate_left
      · intro w'
        go_simp
        with_reducible rfl
      rotate_left
      · simp only [Act.put, List.setIfInBounds_toArray, List.set_cons_zero, List.set_cons_succ, i64_w, i32_w]
        rfl
      refine pure_ (i := 10) (N := some 26) (v := ?_) (a' := ?_) #[true, true, true, true, true, true, true, true, true, true, true, false, false, false, false, false, false, false, false, false, false, false, false, false] rfl rfl (any_of HT_.out (by kernel_rfl)) (fun _ _ _ h => h) (Or.inl ⟨by rfl, ?_⟩) ?_ ?_
      rotate_left
      · intro w'
        go_simp
        with_reducible rfl
      rotate_left
      · simp only [Act.put, List.setIfInBounds_toArray, List.set_cons_zero, List.set_cons_succ, i64_w, i32_w]
        rfl
      refine pure_ (i := 11) (N := some 27) (v := ?_) (a' := ?_) #[true, true, true, true, true, true, true, true, true, true, true, true, false, false, false, false, false, false, false, false, false, false, false, false] rfl rfl (any_of HT_.out (by kernel_rfl)) (fun _ _ _ h => h) (Or.inl ⟨by rfl, ?_⟩) ?_ ?_
      rotate_left
      · intro w'
        go_simp
        with_reducible rfl
      rotate_left
      · simp only [Act.put, List.setIfInBounds_toArray, List.set_cons_zero, List.set_cons_succ, i64_w, i32_w]
        rfl
      refine pure_ (i := 12) (N := some 28) (v := ?_) (a' := ?_) #[true, true, true, true, true, true, true, true, true, true, true, true, true, false, false, false, false, false, false, false, false, false, false, false] rfl rfl (any_of HT_.out (by kernel_rfl)) (fun _ _ _ h => h) (Or.inl ⟨by rfl, ?_⟩) ?_ ?_
      rotate_left
      · intro w'
        go_simp
        with_reducible rfl
      rotate_left
      · simp only [Act.put, List.setIfInBounds_toArray, List.set_cons_zero, List.set_cons_succ, i64_w, i32_w]
        rfl
      refine take_ (i := 13) (N := some 29) (v := ?_) (a' := ?_) #[true, true, true, true, true, true, true, true, true, true, true, true, true, true, false, false, false, false, false, false, false, false, false, false] rfl rfl (take_ofW HT_.out HW_.out (by kernel_rfl)) (fun _ _ _ h => h) (Or.inl ⟨by rfl, ?_⟩) hHeld ?_ ?_
      rotate_left
      · rintro w' ⟨⟨x0, x1, x2, x3, x4, x5⟩, ⟨y0, y1, y2, y3, y4, y5⟩⟩
        go_simp
        with_reducible rfl
      rotate_left
      · simp only [Act.put, List.setIfInBounds_toArray, List.set_cons_zero, List.set_cons_succ, i64_w, i32_w]
        rfl
      refine pure_ (i := 14) (N := some 30) (v := ?_) (a' := ?_) #[true, true, true, true, true, true, true, true, true, true, true, true, true, true, true, false, false, false, false, false, false, false, false, false] rfl rfl (any_of HT_.out (by kernel_rfl)) (fun _ _ _ h => h) (Or.inl ⟨by rfl, ?_⟩) ?_ ?_
      rotate_left
      · intro w'
        go_simp
        with_reducible rfl
      rotate_left
      · simp only [Act.put, List.setIfInBounds_toArray, List.set_cons_zero, List.set_cons_succ, i64_w, i32_w]
        rfl
      refine pure_ (i := 15) (N := some 31) (v := ?_) (a' := ?_) #[true, true, true, true, true, true, true, true, true, true, true, true, true, true, true, true, false, false, false, false, false, false, false, false] rfl rfl (any_of HT_.out (by kernel_rfl)) (fun _ _ _ h => h) (Or.inl ⟨by rfl, ?_⟩) ?_ ?_
      rotate_left
      · intro w'
        go_simp
        with_reducible rfl
      rotate_left
      · simp only [Act.put, List.setIfInBounds_toArray, List.set_cons_zero, List.set_cons_succ, i64_w, i32_w]
        rfl
      refine pure_ (i := 16) (N := some 32) (v := ?_) (a' := ?_) #[true, true, true, true, true, true, true, true, true, true, true, true, true, true, true, true, true, false, false, false, false, false, false, false] rfl rfl (any_of HT_.out (by kernel_rfl)) (fun _ _ _ h => h) (Or.inl ⟨by rfl, ?_⟩) ?_ ?_
      rotate_left
      · intro w'
        go_simp
        with_reducible rfl
      rotate_left
      · simp only [Act.put, List.setIfInBounds_toArray, List.set_cons_zero, List.set_cons_succ, i64_w, i32_w]
        rfl
      refine pure_ (i := 17) (N := some 33) (v := ?_) (a' := ?_) #[true, true, true, true, true, true, true, true, true, true, true, true, true, true, true, true, true, true, false, false, false, false, false, false] rfl rfl (any_of HT_.out (by kernel_rfl)) (fun _ _ _ h => h) (Or.inl ⟨by rfl, ?_⟩) ?_ ?_
      rotate_left
      · intro w'
        go_simp
        with_reducible rfl
      rotate_left
      · simp only [Act.put, List.setIfInBounds_toArray, List.set_cons_zero, List.set_cons_succ, i64_w, i32_w]
        rfl
      refine pure_ (i := 18) (N := some 34) (v := ?_) (a' := ?_) #[true, true, true, true, true, true, true, true, true, true, true, true, true, true, true, true, true, true, true, false, false, false, false, false] rfl rfl (any_of HT_.out (by kernel_rfl)) (fun _ _ _ h => h) (Or.inl ⟨by rfl, ?_⟩) ?_ ?_
      rotate_left
      · intro w'
        go_simp
        with_reducible rfl
      rotate_left
      · simp only [Act.put, List.setIfInBounds_toArray, List.set_cons_zero, List.set_cons_succ, i64_w, i32_w]
        rfl
      refine take_ (i := 19) (N := some 35) (v := ?_) (a' := ?_) #[true, true, true, true, true, true, true, true, true, true, true, true, true, true, true, true, true, true, true, true, false, false, false, false] rfl rfl (take_ofW HT_.out HW_.out (by kernel_rfl)) (fun _ _ _ h => h) (Or.inl ⟨by rfl, ?_⟩) hHeld ?_ ?_
      rotate_left
      · rintro w' ⟨⟨x0, x1, x2, x3, x4, x5⟩, ⟨y0, y1, y2, y3, y4, y5⟩⟩
        go_simp
        with_reducible rfl
      rotate_left
      · simp only [Act.put, List.setIfInBounds_toArray, List.set_cons_zero, List.set_cons_succ, i64_w, i32_w]
        rfl
      refine pure_ (i := 20) (N := some 36) (v := ?_) (a' := ?_) #[true, true, true, true, true, true, true, true, true, true, true, true, true, true, true, true, true, true, true, true, true, false, false, false] rfl rfl (any_of HT_.out (by kernel_rfl)) (fun _ _ _ h => h) (Or.inl ⟨by rfl, ?_⟩) ?_ ?_
      rotate_left
      · intro w'
        go_simp
        with_reducible rfl
      rotate_left
      · simp only [Act.put, List.setIfInBounds_toArray, List.set_cons_zero, List.set_cons_succ, i64_w, i32_w]
        rfl
      obtain ⟨x0, x1, x2, x3, x4, x5⟩ := hHeld.1
      refine last_ (i := 21) (N := none) #[true, true, true, true, true, true, true, true, true, true, true, true, true, true, true, true, true, true, true, true, true, true, false, false] rfl rfl (one_of HT_.out (by kernel_rfl)) (by decide) (fun K hK => ?_)
      refine skip_ (w1 := ?_) (by rfl) rfl ?_ ?_
      rotate_left
      · go_simp
        rfl
      refine hK.out _ _ ?_
      clear hK K x0 x1 x2 x3 x4 x5
      obtain ⟨W1, hW1⟩ : ∃ W1, W1 = Uw.setCells g (p * 3) (encN v) := ⟨_, rfl⟩
      rw [show ((Uw.setCell ⟨g, p * 3, none⟩ (.string v.f0)).setCell ⟨g, p * 3 + 1, none⟩ (.int .i64 v.f1)).setCell ⟨g, p * 3 + 2, none⟩ (.int .i64 v.f2) = W1 from hW1.symm]
      have hR1 : RowAt W1 g cap (L.set p v) := by rw [hW1]; exact hRd.put hp v
      have hG1 : wr.grownBy W1 (some g) := by rw [hW1]; exact hGd.andThen (row' := some g) (put_grown Uw g (p * 3) _) (fun j hj => .inr hj)
      clear hW1
      refine pure_ (i := 22) (N := some 37) (v := ?_) (a' := ?_) #[true, true, true, true, true, true, true, true, true, true, true, true, true, true, true, true, true, true, true, true, true, true, true, false] rfl rfl (any_of HT_.out (by kernel_rfl)) (fun _ _ _ h => h) (Or.inl ⟨by rfl, ?_⟩) ?_ ?_
      rotate_left
      · intro w'
        go_simp
        with_reducible rfl
      rotate_left
      · simp only [Act.put, List.setIfInBounds_toArray, List.set_cons_zero, List.set_cons_succ, i64_w, i32_w]
        rfl
      obtain ⟨x0, x1, x2, x3, x4, x5⟩ := hR1.at_ (p := q) (x := v) (by simpa using hq) (by rw [getElem!_pos _ q (by simpa using hq), List.getElem_set_ne hpq]; rwa [getElem!_pos _ q hq] at hqv)
      refine last_ (i := 23) (N := none) #[true, true, true, true, true, true, true, true, true, true, true, true, true, true, true, true, true, true, true, true, true, true, true, true] rfl rfl (one_of HT_.out (by kernel_rfl)) (by decide) (fun K hK => ?_)
      refine skip_ (w1 := ?_) (by rfl) rfl ?_ ?_
      rotate_left
      · go_simp
        rfl
      refine hK.out _ _ ?_
      clear hK K x0 x1 x2 x3 x4 x5
      obtain ⟨W2, hW2⟩ : ∃ W2, W2 = W1.setCells g (q * 3) (encN u) := ⟨_, rfl⟩
      rw [show ((W1.setCell ⟨g, q * 3, none⟩ (.string u.f0)).setCell ⟨g, q * 3 + 1, none⟩ (.int .i64 u.f1)).setCell ⟨g, q * 3 + 2, none⟩ (.int .i64 u.f2) = W2 from hW2.symm]
      have hR2 : RowAt W2 g cap ((L.set p v).set q u) := by rw [hW2]; exact hR1.put (by simpa using hq) u
      have hG2 : wr.grownBy W2 (some g) := by rw [hW2]; exact hG1.andThen (row' := some g) (put_grown W1 g (q * 3) _) (fun j hj => .inr hj)
      clear hW2
      refine done_ (done_of HT_.out (by kernel_rfl)) ?_
      clear j5 j6 j7 j8
      go_wp2
      go_roundg (U.length - (i + 1))
      case measure => omega
      case rel => exact ⟨i + 1, by omega, Nat.le_refl _, by go_num, ⟨by rw [HGO.out]; exact hR2, HGW.out.andThen (row' := some g) hG2 (fun j hj => .inr hj)⟩⟩
    · have b2 : decide ((i : Int) < (U.length : Int)) = false := decide_eq_false (by omega)
      have hS := HS.out
      rw [List.take_of_length_le (by omega), List.take_of_length_le (by omega), List.drop_eq_nil_of_le (by omega), List.drop_eq_nil_of_le (by omega), List.append_nil, List.append_nil] at hS
      go_wp2
      go_end0
      exact ⟨rfl, hS⟩
end Go.Proofs.Ytgdnljhndjlefaa.QNeedFits

/- Two runs that lie side by side change places: the library's rotate. No conditions beyond those that each theorem names. -/
namespace Go.Proofs.Ytgdnljhndjlefaa.QNeedFits
open Go.RowKit Go.Proofs.Ytgdnljhndjlefaa.PNeedFits Go.Proofs.YtgdnljhndjlefaaW.PrintWords Go.Proofs.YtgdnljhndjlefaaW.PrintLast Go.Proofs.YtgdnljhndjlefaaW.PrintMore Go.Proofs.Ytgdnljhndjlefaa.MMaps
set_option linter.unusedVariables false
set_option linter.unusedSimpArgs false
set_option maxRecDepth 100000
theorem swapRange.at_ (g cap a b k n : Nat) (A U B V C : List Nd) (w : World) (hUV : U.length = V.length) (ha : A.length = a) (hb : a + U.length + B.length = b) (hk : U.length = k) (hn : (A ++ U ++ B ++ V ++ C).length = n) (h : RowAt w g cap (A ++ U ++ B ++ V ++ C)) (hlen : n ≤ 100000) :
    Calls Try.prog 86 #[.slice (some ⟨g, 0, none⟩) n cap, .int .i64 a, .int .i64 b, .int .i64 k, .func (.func 42) #[] #[]] w fun e w' => e = .returned (.tuple #[]) ∧ RowAt w' g cap (A ++ V ++ B ++ U ++ C) ∧ w.grownBy w' (some g) := by
  have := swapRange.calls g cap A U B V C w hUV h (by omega)
  rw [hn, ha, hk, show (A ++ U ++ B).length = b by simp; omega] at this
  exact this
theorem same_grown {w : World} {row : Option Nat} : w.grownBy w row := ⟨rfl, rfl, rfl, Nat.le_refl _, fun _ _ _ => rfl⟩
/-- What is left to be turned round: the runs X and Y, behind P and ahead of S. -/
structure Turn2 (T : List Nd) (m n : Nat) (P X Y S : List Nd) : Prop where
  goal : P ++ Y ++ X ++ S = T
  at_ : P.length + X.length = m
  len : P.length + X.length + Y.length + S.length = n
  x0 : 0 < X.length
  y0 : 0 < Y.length
set_option maxHeartbeats 16000000 in
theorem rotate.calls (g cap a m b n : Nat) (P X Y S : List Nd) (w : World) (h : RowAt w g cap (P ++ X ++ Y ++ S)) (ha : P.length = a) (hm : a + X.length = m) (hb : m + Y.length = b) (hn : (P ++ X ++ Y ++ S).length = n) (hlen : n ≤ 100000) (hX : 0 < X.length) (hY : 0 < Y.length) :
    Calls Try.prog 82 #[.slice (some ⟨g, 0, none⟩) n cap, .int .i64 a, .int .i64 m, .int .i64 b, .func (.func 42) #[] #[]] w fun e w' => e = .returned (.tuple #[]) ∧ RowAt w' g cap (P ++ Y ++ X ++ S) ∧ w.grownBy w' (some g) := by
  obtain ⟨T, hT⟩ : ∃ T, P ++ Y ++ X ++ S = T := ⟨_, rfl⟩
  rw [hT]
  have HT := Aside0.mk (show Turn2 T m n P X Y S from ⟨hT, by omega, by rw [← hn]; simp; omega, hX, hY⟩)
  have HR := Aside0.mk h
  have hi : (m : Int) - (a : Int) = (X.length : Int) := by omega
  have hj : (b : Int) - (m : Int) = (Y.length : Int) := by omega
  have hmn : m ≤ n := by have := HT.out.len; have := HT.out.at_; omega
  have hxl : X.length ≤ 100000 := by omega
  have hyl : Y.length ≤ 100000 := by have := HT.out.len; omega
  clear hT h hn
  go_enter Try.func82, Try.ntmps82
  go_wp2
  go_loopg [10, 11] (X.length + Y.length) (fun gg v10 v11 wr => ∃ (P' X' Y' S' : List Nd), v10 = .int .i64 X'.length ∧ v11 = .int .i64 Y'.length ∧ X'.length + Y'.length ≤ gg ∧ Aside0 (Turn2 T m n P' X' Y' S') ∧ Aside0 (RowAt wr g cap (P' ++ X' ++ Y' ++ S')) ∧ Aside0 (w.grownBy wr (some g)))
  case atStart => exact ⟨P, X, Y, S, rfl, rfl, Nat.le_refl _, HT, HR, ⟨same_grown⟩⟩
  case round =>
    clear HT HR hi hj hX hY ha hm hb hxl hyl
    obtain ⟨P', X', Y', S', rfl, rfl, hg, HT, HR, HG⟩ := hrel
    obtain ⟨h1, h2, h3, h4, h5⟩ := HT.out
    have HGO := Aside0.mk h1
    clear h1 HT
    obtain ⟨i, hi⟩ : ∃ i, X'.length = i := ⟨_, rfl⟩
    obtain ⟨j, hj⟩ : ∃ j, Y'.length = j := ⟨_, rfl⟩
    obtain ⟨pl, hpl⟩ : ∃ pl, P'.length = pl := ⟨_, rfl⟩
    rw [hi] at h2 h3 h4 hg
    rw [hj] at h3 h5 hg
    rw [hpl] at h2 h3
    rw [hi, hj]
    have e1 : (m : Int) - (i : Int) = (pl : Int) := by omega
    have hpb : pl ≤ 100000 := by omega
    by_cases hij : i = j
    · subst hij
      have b1 : ((i : Int) != (i : Int)) = false := bne_self_eq_false _
      have hs := swapRange.at_ g cap pl m i n P' X' [] Y' S' wr (by omega) hpl (by simp; omega) hi (by simp; omega) (by simpa using HR.out) hlen
      rw [show P' ++ Y' ++ [] ++ X' ++ S' = T by rw [← HGO.out]; simp] at hs
      have HG1 := HG
      clear HR HGO HG h2 h3 h4 h5 hg hi hj hpl
      go_wp2_with (go_at_call 86; (with_reducible refine hs.mono ?_); rintro e w1 ⟨rfl, hR1, hG1⟩; clear hs)
      go_end0
      exact ⟨rfl, hR1, HG1.out.andThen (row' := some g) hG1 (fun j hj => .inr hj)⟩
    · have b0 : ((i : Int) == (j : Int)) = false := beq_eq_false_iff_ne.mpr (by omega)
      have b1 : ((i : Int) != (j : Int)) = true := by unfold bne; rw [b0]; rfl
      by_cases hgt : j < i
      · have b2 : decide ((i : Int) > (j : Int)) = true := decide_eq_true (by omega)
        have b3 : decide ((j : Int) < (i : Int)) = true := decide_eq_true (by omega)
        obtain ⟨d, hd⟩ : ∃ d, i - j = d := ⟨_, rfl⟩
        have e2 : (i : Int) - (j : Int) = (d : Int) := by omega
        have hx1 : (X'.take j).length = j := by rw [List.length_take]; omega
        have hx2 : (X'.drop j).length = d := by rw [List.length_drop]; omega
        have hx : X'.take j ++ X'.drop j = X' := List.take_append_drop j X'
        have hs := swapRange.at_ g cap pl m j n P' (X'.take j) (X'.drop j) Y' S' wr (by omega) hpl (by omega) hx1 (by simp; omega) (by have := HR.out; rw [← hx] at this; simpa using this) hlen
        have HN := Aside0.mk (show Turn2 T m n (P' ++ Y') (X'.drop j) (X'.take j) S' from ⟨by have z := HGO.out; rw [← hx] at z; simpa using z, by simp; omega, by simp; omega, by omega, by omega⟩)
        have HM := Aside0.mk (show (X'.drop j).length + (X'.take j).length ≤ gk ∧ (X'.drop j).length + (X'.take j).length < i + j from ⟨by omega, by omega⟩)
        have hdb : d ≤ 100000 := by omega
        generalize X'.take j = X1 at *
        generalize X'.drop j = X2 at *
        have HX := Aside0.mk (And.intro hx1 hx2)
        clear hx hx1 hx2 HR HGO hi hj hpl h2 h3 h4 h5 hij hd
        go_wp2_with (go_at_call 86; (with_reducible refine hs.mono ?_); rintro e w1 ⟨rfl, hR1, hG1⟩; clear hs)
        go_roundg (i + j - 1)
        case measure => have := HM.out; have := HX.out; omega
        case rel =>
          exact ⟨P' ++ Y', X2, X1, S', by rw [HX.out.2], by rw [HX.out.1], by have := HM.out.2; omega, HN, ⟨by simpa using hR1⟩, ⟨HG.out.andThen (row' := some g) hG1 (fun j hj => .inr hj)⟩⟩
      · have b2 : decide ((i : Int) > (j : Int)) = false := decide_eq_false (by omega)
        have b3 : decide ((j : Int) < (i : Int)) = false := decide_eq_false (by omega)
        obtain ⟨d, hd⟩ : ∃ d, j - i = d := ⟨_, rfl⟩
        have e2 : (j : Int) - (i : Int) = (d : Int) := by omega
        obtain ⟨mj, hmj⟩ : ∃ mj, m + j = mj := ⟨_, rfl⟩
        obtain ⟨q, hq⟩ : ∃ q, m + j - i = q := ⟨_, rfl⟩
        have e4 : (m : Int) + (j : Int) - (i : Int) = (q : Int) := by omega
        have hy1 : (Y'.take d).length = d := by rw [List.length_take]; omega
        have hy2 : (Y'.drop d).length = i := by rw [List.length_drop]; omega
        have hy : Y'.take d ++ Y'.drop d = Y' := List.take_append_drop d Y'
        have hs := swapRange.at_ g cap pl q i n P' X' (Y'.take d) (Y'.drop d) S' wr (by omega) hpl (by omega) hi (by simp; omega) (by have := HR.out; rw [← hy] at this; simpa using this) hlen
        have HN := Aside0.mk (show Turn2 T m n P' (Y'.drop d) (Y'.take d) (X' ++ S') from ⟨by have z := HGO.out; rw [← hy] at z; simpa using z, by omega, by simp; omega, by omega, by omega⟩)
        have HM := Aside0.mk (show (Y'.drop d).length + (Y'.take d).length ≤ gk ∧ (Y'.drop d).length + (Y'.take d).length < i + j from ⟨by omega, by omega⟩)
        have hdb : d ≤ 100000 := by omega
        have hqb : q ≤ 100000 := by omega
        have hmjb : mj ≤ 100000 := by omega
        generalize Y'.take d = Y1 at *
        generalize Y'.drop d = Y2 at *
        have HX := Aside0.mk (And.intro hy1 hy2)
        clear hy hy1 hy2 HR HGO hi hj hpl h2 h3 h4 h5 hij hd hmj hq
        go_wp2_with (go_at_call 86; (with_reducible refine hs.mono ?_); rintro e w1 ⟨rfl, hR1, hG1⟩; clear hs)
        go_roundg (i + j - 1)
        case measure => have := HM.out; have := HX.out; omega
        case rel =>
          exact ⟨P', Y2, Y1, X' ++ S', by rw [HX.out.2], by rw [HX.out.1], by have := HM.out.2; omega, HN, ⟨by simpa using hR1⟩, ⟨HG.out.andThen (row' := some g) hG1 (fun j hj => .inr hj)⟩⟩
end Go.Proofs.Ytgdnljhndjlefaa.QNeedFits
