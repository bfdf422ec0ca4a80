/- The document's totals are the program's. No conditions beyond those that each theorem names. -/
import Derived.Test.YtgdnljhndjlefaaQNeedFitsNeedText
import Derived.Test.YtgdnljhndjlefaaQNeedFitsPoolRef
import Derived.Test.YtgdnljhndjlefaaQNeedFitsNeedSortAll
import Derived.Test.YtgdnljhndjlefaaQNeedFitsNeedLaw
import Derived.Test.YtgdnljhndjlefaaMOpenU
namespace Go.Proofs.Ytgdnljhndjlefaa.QNeedFits
open Go.RowKit Go.Proofs.Ytgdnljhndjlefaa.PNeedFits Go.Proofs.YtgdnljhndjlefaaW.PrintWords Go.Proofs.YtgdnljhndjlefaaW.PrintLast Go.Proofs.YtgdnljhndjlefaaW.PrintMore Go.Proofs.Ytgdnljhndjlefaa.MMaps
set_option linter.unusedVariables false
set_option linter.unusedSimpArgs false
set_option maxRecDepth 100000
def totR (s : ByteArray) (t : Tot) (L : List Hd) : Tot := L.foldl (fun t h => if eqS h.f1 s then tot1 t h.f2 h.f3 else t) t
theorem totR_is (s : ByteArray) (L : List Hd) : totR s ⟨0, 0, 0⟩ L = totOf s (L.map toP) := by
  unfold totR totOf
  rw [List.foldl_map]
  rfl
theorem tot1_more {t : Tot} {n : Int} (h : 4096000 - t.n < n) (h1 : 0 ≤ t.n) (h2 : t.n ≤ 4096000) : tot1 t n 0 = ⟨4096000, t.s, t.x⟩ := by
  unfold tot1
  rw [if_pos rfl]
  congr 1
  omega
theorem tot1_neg {t : Tot} {n : Int} (h : ¬ 4096000 - t.n < n) (h3 : t.n + n < 0) : tot1 t n 0 = ⟨0, t.s, t.x⟩ := by
  unfold tot1
  rw [if_pos rfl]
  congr 1
  omega
theorem tot1_pos {t : Tot} {n : Int} (h : ¬ 4096000 - t.n < n) (h3 : ¬ t.n + n < 0) : tot1 t n 0 = ⟨t.n + n, t.s, t.x⟩ := by
  unfold tot1
  rw [if_pos rfl]
  congr 1
  omega
theorem refTotal_l0 (s : ByteArray) (L : List Hd) (hw : ∀ h ∈ L, -9223372036854775808 ≤ h.f2 ∧ h.f2 ≤ 9223372036854775807) (hl : L.length ≤ 4398046511104) : ∀ (d i : Nat) (t : Tot), i + d = L.length → TotIn t i → dayshiftref14_Total.l0 (d + 1) L s 4096000 t.n t.s t.x (i : Int) = some ((totR s t (L.drop i)).n, (totR s t (L.drop i)).s, (totR s t (L.drop i)).x) := by
  intro d
  induction d with
  | zero =>
    intro i t hi ht
    rw [dayshiftref14_Total.l0.eq_2, if_neg (by omega), List.drop_eq_nil_of_le (by omega)]
    rfl
  | succ d ih =>
    intro i t hi ht
    have hlt : i < L.length := by omega
    have hwx := hw _ (List.getElem_mem hlt)
    have hD : totR s t (L.drop i) = totR s (if eqS L[i].f1 s then tot1 t L[i].f2 L[i].f3 else t) (L.drop (i + 1)) := by
      rw [List.drop_eq_getElem_cons hlt]; rfl
    have ei : wrap64 ((i : Int) + 1) = ((i + 1 : Nat) : Int) := by rw [wrap64_id (by omega) (by omega)]; omega
    rw [hD, dayshiftref14_Total.l0.eq_2, if_pos (by omega), if_pos (by omega), rdhd_at L i hlt, ei]
    generalize L[i] = x at *
    obtain ⟨t1, t2, t3, t4, t5, t6⟩ := ht
    by_cases hq : x.f1.toList = s.toList
    · have hq2 : eqS x.f1 s = true := by unfold eqS; rw [hq]; simp
      rw [if_pos hq, hq2, if_pos rfl]
      have hin := tot1_in (t := t) (i := i) ⟨t1, t2, t3, t4, t5, t6⟩ x.f2 x.f3
      by_cases h0 : x.f3 = 0
      · rw [if_pos h0, wrap64_id (x := 4096000 - t.n) (by omega) (by omega)]
        rw [h0] at hin ⊢
        by_cases hm : x.f2 > 4096000 - t.n
        · rw [if_pos hm, if_neg (by omega)]
          have e := tot1_more (t := t) (n := x.f2) hm t1 t2
          rw [e] at hin ⊢
          exact ih (i + 1) _ (by omega) hin
        · rw [if_neg hm, wrap64_id (x := t.n + x.f2) (by omega) (by omega)]
          by_cases hneg : t.n + x.f2 < 0
          · rw [if_pos hneg]
            have e := tot1_neg (t := t) (n := x.f2) hm hneg
            rw [e] at hin ⊢
            exact ih (i + 1) _ (by omega) hin
          · rw [if_neg hneg]
            have e := tot1_pos (t := t) (n := x.f2) hm hneg
            rw [e] at hin ⊢
            exact ih (i + 1) _ (by omega) hin
      · rw [if_neg h0]
        by_cases h1 : x.f3 = 1
        · rw [if_pos h1, wrap64_id (x := t.s + 1) (by omega) (by omega)]
          have e : tot1 t x.f2 x.f3 = ⟨t.n, t.s + 1, t.x⟩ := by unfold tot1; rw [if_neg h0, if_pos h1]
          rw [e] at hin ⊢
          exact ih (i + 1) _ (by omega) hin
        · rw [if_neg h1]
          by_cases h2 : x.f3 = 2
          · rw [if_pos h2, wrap64_id (x := t.x + 1) (by omega) (by omega)]
            have e : tot1 t x.f2 x.f3 = ⟨t.n, t.s, t.x + 1⟩ := by unfold tot1; rw [if_neg h0, if_neg h1, if_pos h2]
            rw [e] at hin ⊢
            exact ih (i + 1) _ (by omega) hin
          · rw [if_neg h2]
            have e : tot1 t x.f2 x.f3 = t := by unfold tot1; rw [if_neg h0, if_neg h1, if_neg h2]
            rw [e] at hin ⊢
            exact ih (i + 1) _ (by omega) hin
    · have hq2 : eqS x.f1 s = false := by unfold eqS; simpa using hq
      rw [if_neg hq, hq2]
      simp only [Bool.false_eq_true, if_false]
      exact ih (i + 1) t (by omega) ⟨t1, t2, t3, by omega, t5, by omega⟩
theorem refTotal.calls (A0 : Option Addr) (c0 : Nat) (L : List Hd) (s : ByteArray) (w : World) (h : Kd.C k56 w A0 L.length L) (hc : L.length ≤ c0) (hw : ∀ h ∈ L, -9223372036854775808 ≤ h.f2 ∧ h.f2 ≤ 9223372036854775807) (hl : L.length ≤ 4398046511104) :
    Calls Try.prog 24 #[.slice A0 L.length c0, .string s] w fun e w' => e = .returned (.tuple #[.int .i64 (totOf s (L.map toP)).n, .int .i64 (totOf s (L.map toP)).s, .int .i64 (totOf s (L.map toP)).x]) ∧ Drawn0 w w' := by
  have h0 := refTotal_l0 s L hw hl L.length 0 ⟨0, 0, 0⟩ (by omega) ⟨by simp, by simp, by simp, by simp, by simp, by simp⟩
  rw [List.drop_zero, totR_is] at h0
  exact dayshiftref14_Total.calls (L.length + 1) A0 c0 L s _ _ _ w h hc h0
end Go.Proofs.Ytgdnljhndjlefaa.QNeedFits

/- A number as the document writes it is as the program does. No conditions beyond those that each theorem names. -/
namespace Go.Proofs.Ytgdnljhndjlefaa.QNeedFits
open Go.RowKit Go.Proofs.Ytgdnljhndjlefaa.PNeedFits Go.Proofs.YtgdnljhndjlefaaW.PrintWords Go.Proofs.YtgdnljhndjlefaaW.PrintLast Go.Proofs.YtgdnljhndjlefaaW.PrintMore Go.Proofs.Ytgdnljhndjlefaa.MMaps
set_option linter.unusedVariables false
set_option linter.unusedSimpArgs false
set_option maxRecDepth 100000
theorem dg_step (k : Nat) (n least : Int) (xs : List Int) (h0 : 0 ≤ n) (h1 : n ≤ 9223372036854775807) (hl : 0 < n ∨ (xs.length : Int) < least) (h9 : xs.length ≤ 100000) :
    dayshiftref01_Digits.l0 (k + 1) n least xs = dayshiftref01_Digits.l0 k (n / 10) least (xs ++ [48 + n % 10]) := by
  have e : (wrap64 (48 + (Int.tmod n 10))) % 256 = 48 + n % 10 := by
    rw [Int.tmod_eq_emod_of_nonneg h0, wrap64_id (by omega) (by omega)]
    omega
  have e2 : wrap64 (Int.tdiv n 10) = n / 10 := by
    rw [Int.tdiv_eq_ediv_of_nonneg h0, wrap64_id (by omega) (by omega)]
  rw [dayshiftref01_Digits.l0.eq_2, e, e2]
  by_cases h : n > 0
  · rw [if_pos h, if_pos (by omega)]
  · rw [if_neg h, if_pos (hl.resolve_left h), if_pos (by omega)]
theorem dg_end (k : Nat) (n least : Int) (xs : List Int) (h0 : n = 0) (hl : ¬ (xs.length : Int) < least) :
    dayshiftref01_Digits.l0 (k + 1) n least xs = dayshiftref01_Digits.l1 k xs [] (wrap64 ((xs.length : Int) - 1)) := by
  rw [dayshiftref01_Digits.l0.eq_2, if_neg (by omega), if_neg hl]
theorem dg_rev (k : Nat) (xs ys : List Int) (i : Int) (h0 : 0 ≤ i) (h1 : i < xs.length) (h9 : ys.length ≤ 100000) (h8 : xs.length ≤ 100000) :
    dayshiftref01_Digits.l1 (k + 1) xs ys i = dayshiftref01_Digits.l1 k xs (ys ++ [rd xs i]) (i - 1) := by
  rw [dayshiftref01_Digits.l1.eq_2, if_pos (by omega), if_pos h0, if_pos h1, if_pos (by omega), wrap64_id (by omega) (by omega)]
theorem dg_rev_end (k : Nat) (xs ys : List Int) : dayshiftref01_Digits.l1 (k + 1) xs ys (-1) = some (strOfNums ys) := by
  rw [dayshiftref01_Digits.l1.eq_2, if_neg (by omega)]
theorem dg_all (xs : List Int) (h8 : xs.length ≤ 50000) : ∀ (j k : Nat) (ys : List Int), j ≤ xs.length → ys.length + j ≤ 100000 → dayshiftref01_Digits.l1 (k + 1 + j) xs ys ((j : Int) - 1) = some (strOfNums (ys ++ (xs.take j).reverse)) := by
  intro j
  induction j with
  | zero => intro k ys _ _; simpa using dg_rev_end k xs ys
  | succ j ih =>
    intro k ys hj hy
    have e : rd xs (j : Int) = xs[j] := by
      unfold rd
      rw [Int.toNat_natCast]
      simp [List.getD, List.getElem?_eq_getElem (show j < xs.length by omega)]
    rw [show k + 1 + (j + 1) = (k + 1 + j) + 1 by omega, show (((j + 1 : Nat) : Int) - 1) = (j : Int) by omega, dg_rev _ _ _ _ (by omega) (by omega) (by omega) (by omega), e, ih k _ (by omega) (by simp; omega)]
    rw [List.take_succ_eq_append_getElem (by omega), List.reverse_append]
    simp
/-- A number's digits, the last one first. -/
def digL (n : Int) : List Int := if h : n < 10 then [48 + n] else (48 + n % 10) :: digL (n / 10)
termination_by n.toNat
decreasing_by omega
theorem digL_lt {n : Int} (h : n < 10) : digL n = [48 + n] := by rw [digL]; simp [h]
theorem digL_ge {n : Int} (h : ¬ n < 10) : digL n = (48 + n % 10) :: digL (n / 10) := by rw [digL]; simp [h]
theorem digL_len : ∀ (c : Nat) (n : Int), n < 10 ^ (c + 1) → (digL n).length ≤ c + 1
  | 0, n, h => by rw [digL_lt (by simpa using h)]; simp
  | c + 1, n, h => by
    by_cases hn : n < 10
    · rw [digL_lt hn]; simp
    · rw [digL_ge hn, List.length_cons]
      have := digL_len c (n / 10) (by rw [Int.pow_succ] at h; omega)
      omega
theorem dg_go : ∀ (m : Nat) (n : Int) (acc : List Int) (k : Nat), n.toNat ≤ m → 0 < n → n ≤ 9223372036854775807 → acc.length + (digL n).length ≤ 100000 → dayshiftref01_Digits.l0 (k + (digL n).length) n 1 acc = dayshiftref01_Digits.l0 k 0 1 (acc ++ digL n)
  | 0, n, acc, k, h, h0, _, _ => by omega
  | m + 1, n, acc, k, h, h0, h1, ha => by
    by_cases hn : n < 10
    · rw [digL_lt hn] at ha ⊢
      rw [show k + [48 + n].length = k + 1 from rfl, dg_step k n 1 acc (by omega) h1 (.inl h0) (by simp at ha; omega), show n / 10 = 0 by omega, show n % 10 = n by omega]
    · rw [digL_ge hn, List.length_cons] at ha ⊢
      rw [show k + ((digL (n / 10)).length + 1) = (k + (digL (n / 10)).length) + 1 by omega, dg_step _ n 1 acc (by omega) h1 (.inl h0) (by omega), dg_go m (n / 10) _ k (by omega) (by omega) (by omega) (by simp; omega)]
      simp
theorem str_app (a b : List Int) : strOfNums (a ++ b) = strOfNums a ++ strOfNums b := by
  apply ByteArray.ext
  simp [strOfNums, ByteArray.data_append]
theorem str_dig : ∀ (m : Nat) (n : Int), n.toNat ≤ m → 0 ≤ n → strOfNums (digL n).reverse = numB n
  | 0, n, h, h0 => by rw [digL_lt (by omega), numB_lt (by omega)]; rfl
  | m + 1, n, h, h0 => by
    by_cases hn : n < 10
    · rw [digL_lt hn, numB_lt hn]; rfl
    · rw [digL_ge hn, numB_ge hn, List.reverse_cons, str_app, str_dig m (n / 10) (by omega) (by omega)]
      rfl
theorem Digits_is (n : Int) (h0 : 0 ≤ n) (h1 : n ≤ 9223372036854775807) (k : Nat) (hk : 100 ≤ k) : dayshiftref01_Digits.f k n 1 = some (numB n) := by
  have hl := digL_len 18 n (by omega)
  unfold dayshiftref01_Digits.f
  by_cases hz : n = 0
  · subst hz
    obtain ⟨k, rfl⟩ : ∃ q, k = (q + 1 + 1) + 1 + 1 := ⟨k - 4, by omega⟩
    rw [dg_step _ 0 1 [] (by omega) (by omega) (.inr (by simp)) (by simp), show (0 : Int) / 10 = 0 from rfl, dg_end _ 0 1 _ rfl (by simp)]
    have := dg_all [48] (by simp) 1 k [] (by simp) (by simp)
    rw [wrap64_id (by simp) (by simp)]
    have e : ([] ++ [48 + (0 : Int) % 10]) = [48] := rfl
    rw [e]
    rw [show (([48] : List Int).length : Int) - 1 = ((1 : Nat) : Int) - 1 from rfl, this, numB_lt (by omega)]
    rfl
  · obtain ⟨q, hq⟩ : ∃ q, k = ((q + 1 + (digL n).length) + 1) + (digL n).length := ⟨k - (2 * (digL n).length + 2), by omega⟩
    have hpos : 0 < (digL n).length := by
      by_cases hn : n < 10
      · rw [digL_lt hn]; simp
      · rw [digL_ge hn]; simp
    rw [hq, dg_go n.toNat n [] _ (Nat.le_refl _) (by omega) h1 (by simp; omega), List.nil_append, dg_end _ 0 1 _ rfl (by omega), wrap64_id (by omega) (by omega), dg_all _ (by omega) _ _ [] (Nat.le_refl _) (by simp; omega), List.nil_append, List.take_length, str_dig n.toNat n (Nat.le_refl _) h0]
theorem numB_len (n : Int) (h0 : 0 ≤ n) (h1 : n ≤ 9223372036854775807) : (numB n).size ≤ 19 := by
  rw [← str_dig n.toNat n (Nat.le_refl _) h0]
  have := digL_len 18 n (by omega)
  have e : (strOfNums (digL n).reverse).size = (digL n).length := by simp [strOfNums, ByteArray.size]
  omega
theorem kindT_len (n m : Int) (h : n ≤ 9223372036854775807) : (kindT n m).size ≤ 19 := by
  unfold kindT
  split
  · split
    · exact Nat.le_trans (show (⟨#[63]⟩ : ByteArray).size ≤ 1 by decide) (by decide)
    · exact numB_len n (by omega) h
  · split
    · exact Nat.le_trans (show (⟨#[115]⟩ : ByteArray).size ≤ 1 by decide) (by decide)
    · split
      · exact Nat.le_trans (show (⟨#[120]⟩ : ByteArray).size ≤ 1 by decide) (by decide)
      · exact Nat.le_trans (show (⟨#[63]⟩ : ByteArray).size ≤ 1 by decide) (by decide)
end Go.Proofs.Ytgdnljhndjlefaa.QNeedFits

/- Needs as the document writes them are as the program does. No conditions beyond those that each theorem names. -/
namespace Go.Proofs.Ytgdnljhndjlefaa.QNeedFits
open Go.RowKit Go.Proofs.Ytgdnljhndjlefaa.PNeedFits Go.Proofs.YtgdnljhndjlefaaW.PrintWords Go.Proofs.YtgdnljhndjlefaaW.PrintLast Go.Proofs.YtgdnljhndjlefaaW.PrintMore Go.Proofs.Ytgdnljhndjlefaa.MMaps
set_option linter.unusedVariables false
set_option linter.unusedSimpArgs false
set_option maxRecDepth 100000
theorem tx_step (k : Nat) (L : List Nr) (acc : ByteArray) (i : Nat) (hi : i < L.length) (hk : 100 ≤ k) (hs : acc.size ≤ 1000000000000000) (hn : L[i].f0.size ≤ 1000000000000000) (hw : L[i].f1 ≤ 9223372036854775807) (hl : L.length ≤ 100000) :
    dayshiftref14_Text.l0 (k + 1) L acc (i : Int) = dayshiftref14_Text.l0 k L (if i = 0 then ((acc ++ L[i].f0) ++ co1) ++ kindT L[i].f1 L[i].f2 else (((acc ++ sp1) ++ L[i].f0) ++ co1) ++ kindT L[i].f1 L[i].f2) ((i + 1 : Nat) : Int) := by
  have ei : wrap64 ((i : Int) + 1) = ((i + 1 : Nat) : Int) := by rw [wrap64_id (by omega) (by omega)]; omega
  have ht := kindT_len L[i].f1 L[i].f2 hw
  have c1 : (⟨#[32]⟩ : ByteArray).size = 1 := rfl
  have c2 : (⟨#[58]⟩ : ByteArray).size = 1 := rfl
  rw [dayshiftref14_Text.l0.eq_2, if_pos (by omega), if_pos (by omega), rdnr_at L i hi, ei]
  generalize L[i] = x at *
  by_cases h0 : x.f2 = 0
  · rw [if_pos h0]
    by_cases hp : x.f1 ≥ 0
    · have ek : kindT x.f1 x.f2 = numB x.f1 := by unfold kindT; rw [if_pos h0, if_neg (by omega)]
      rw [ek] at ht ⊢
      rw [if_pos hp, Digits_is x.f1 hp hw k hk]
      show (if (i : Int) > 0 then _ else _) = _
      by_cases hi0 : i = 0
      · rw [if_neg (by omega), if_pos hi0, if_pos (by omega), if_pos (by simp only [ByteArray.size_append]; omega), if_pos (by simp only [ByteArray.size_append, c2]; omega)]
      · rw [if_pos (by omega), if_neg hi0, if_pos (by omega), if_pos (by simp only [ByteArray.size_append, c1]; omega), if_pos (by simp only [ByteArray.size_append, c1]; omega), if_pos (by simp only [ByteArray.size_append, c1, c2]; omega)]
    · have ek : kindT x.f1 x.f2 = ⟨#[63]⟩ := by unfold kindT; rw [if_pos h0, if_pos (by omega)]
      rw [ek, if_neg hp]
      by_cases hi0 : i = 0
      · rw [if_neg (by omega), if_pos hi0, if_pos (by omega), if_pos (by simp only [ByteArray.size_append]; omega), if_pos (by simp only [ByteArray.size_append, c2]; omega)]
      · rw [if_pos (by omega), if_neg hi0, if_pos (by omega), if_pos (by simp only [ByteArray.size_append, c1]; omega), if_pos (by simp only [ByteArray.size_append, c1]; omega), if_pos (by simp only [ByteArray.size_append, c1, c2]; omega)]
  · rw [if_neg h0]
    by_cases h1 : x.f2 = 1
    · rw [if_pos h1, show kindT x.f1 x.f2 = ⟨#[115]⟩ by unfold kindT; rw [if_neg h0, if_pos h1]]
      by_cases hi0 : i = 0
      · rw [if_neg (by omega), if_pos hi0, if_pos (by omega), if_pos (by simp only [ByteArray.size_append]; omega), if_pos (by simp only [ByteArray.size_append, c2]; omega)]
      · rw [if_pos (by omega), if_neg hi0, if_pos (by omega), if_pos (by simp only [ByteArray.size_append, c1]; omega), if_pos (by simp only [ByteArray.size_append, c1]; omega), if_pos (by simp only [ByteArray.size_append, c1, c2]; omega)]
    · rw [if_neg h1]
      by_cases h2 : x.f2 = 2
      · rw [if_pos h2, show kindT x.f1 x.f2 = ⟨#[120]⟩ by unfold kindT; rw [if_neg h0, if_neg h1, if_pos h2]]
        by_cases hi0 : i = 0
        · rw [if_neg (by omega), if_pos hi0, if_pos (by omega), if_pos (by simp only [ByteArray.size_append]; omega), if_pos (by simp only [ByteArray.size_append, c2]; omega)]
        · rw [if_pos (by omega), if_neg hi0, if_pos (by omega), if_pos (by simp only [ByteArray.size_append, c1]; omega), if_pos (by simp only [ByteArray.size_append, c1]; omega), if_pos (by simp only [ByteArray.size_append, c1, c2]; omega)]
      · rw [if_neg h2, show kindT x.f1 x.f2 = ⟨#[63]⟩ by unfold kindT; rw [if_neg h0, if_neg h1, if_neg h2]]
        by_cases hi0 : i = 0
        · rw [if_neg (by omega), if_pos hi0, if_pos (by omega), if_pos (by simp only [ByteArray.size_append]; omega), if_pos (by simp only [ByteArray.size_append, c2]; omega)]
        · rw [if_pos (by omega), if_neg hi0, if_pos (by omega), if_pos (by simp only [ByteArray.size_append, c1]; omega), if_pos (by simp only [ByteArray.size_append, c1]; omega), if_pos (by simp only [ByteArray.size_append, c1, c2]; omega)]
theorem join_snoc (sep y : List UInt8) : ∀ (xs : List (List UInt8)), xs ≠ [] → Lib.join (xs ++ [y]) sep = Lib.join xs sep ++ sep ++ y
  | [], h => absurd rfl h
  | x :: r, _ => by
    rw [List.cons_append, Lib.join_cons, Lib.join_cons]
    simp [Lib.joinTail]
/-- What is written of the first needs. -/
def accB (L : List Nr) (i : Nat) : ByteArray := joinB ((L.take i).map fun e => pieceB (toN e)) sp1
theorem accB_step (L : List Nr) (i : Nat) (hi : i < L.length) : accB L (i + 1) = if i = 0 then ((accB L i ++ L[i].f0) ++ co1) ++ kindT L[i].f1 L[i].f2 else (((accB L i ++ sp1) ++ L[i].f0) ++ co1) ++ kindT L[i].f1 L[i].f2 := by
  have hp : pieceB (toN L[i]) = (L[i].f0 ++ co1) ++ kindT L[i].f1 L[i].f2 := rfl
  have ht : (L.take (i + 1)).map (fun e => pieceB (toN e)) = (L.take i).map (fun e => pieceB (toN e)) ++ [pieceB (toN L[i])] := by rw [List.take_succ_eq_append_getElem hi, List.map_append]; rfl
  unfold accB joinB
  rw [ht, List.map_append]
  by_cases h0 : i = 0
  · subst h0
    rw [if_pos rfl]
    apply ByteArray.ext
    apply Array.toList_inj.mp
    simp only [List.take_zero, List.map_nil, List.nil_append, List.map_cons, Lib.join_one, Lib.join_nil]
    simp [hp, ByteArray.data_append]
  · rw [if_neg h0]
    rw [show ([pieceB (toN L[i])].map (·.data.toList)) = [(pieceB (toN L[i])).data.toList] from rfl, join_snoc _ _ _ (fun h => by have h2 := congrArg List.length h; rw [List.length_map, List.length_map, List.length_take] at h2; simp only [List.length_nil] at h2; omega)]
    apply ByteArray.ext
    apply Array.toList_inj.mp
    simp [hp, ByteArray.data_append, List.append_assoc]
theorem accB_size (L : List Nr) (hn : ∀ e ∈ L, e.f0.size ≤ 1000000000 ∧ e.f1 ≤ 9223372036854775807) : ∀ i, i ≤ L.length → (accB L i).size ≤ i * 2000000000
  | 0, _ => by show (accB L 0).size ≤ 0 * 2000000000; simp [accB, joinB, Lib.join_nil, ByteArray.size]
  | i + 1, h => by
    have ih := accB_size L hn i (by omega)
    have hx := hn _ (List.getElem_mem (show i < L.length by omega))
    have ht := kindT_len L[i].f1 L[i].f2 hx.2
    have c1 : sp1.size = 1 := rfl
    have c2 : co1.size = 1 := rfl
    rw [accB_step L i (by omega)]
    split <;> simp only [ByteArray.size_append, c1, c2] <;> omega
theorem refText_l0 (L : List Nr) (hn : ∀ e ∈ L, e.f0.size ≤ 1000000000 ∧ e.f1 ≤ 9223372036854775807) (hl : L.length ≤ 1000) : ∀ (d i : Nat), i + d = L.length → dayshiftref14_Text.l0 (d + 101) L (accB L i) (i : Int) = some (accB L L.length) := by
  intro d
  induction d with
  | zero =>
    intro i hi
    rw [dayshiftref14_Text.l0.eq_2, if_neg (by omega), show i = L.length by omega]
  | succ d ih =>
    intro i hi
    have hx := hn _ (List.getElem_mem (show i < L.length by omega))
    have hsz := accB_size L hn i (by omega)
    rw [show d + 1 + 101 = (d + 101) + 1 by omega, tx_step (d + 101) L _ i (by omega) (by omega) (by omega) (by omega) hx.2 (by omega), ← accB_step L i (by omega)]
    exact ih (i + 1) (by omega)
theorem refText.calls (A0 : Option Addr) (c0 : Nat) (L : List Nr) (w : World) (h : Kd.C k80 w A0 L.length L) (hc : L.length ≤ c0) (hn : ∀ e ∈ L, e.f0.size ≤ 1000000000 ∧ e.f1 ≤ 9223372036854775807) (hl : L.length ≤ 1000) :
    Calls Try.prog 28 #[.slice A0 L.length c0] w fun e w' => e = .returned (.string (textB (L.map toN))) ∧ Below w.heap.size w w' := by
  have e : accB L L.length = textB (L.map toN) := by unfold accB textB; rw [List.take_length, List.map_map]; rfl
  have h0 := refText_l0 L hn hl L.length 0 (by omega)
  rw [e] at h0
  have := dayshiftref14_Text.calls (L.length + 101) A0 c0 L (textB (L.map toN)) w h hc (by
    unfold dayshiftref14_Text.f
    have e0 : accB L 0 = (⟨#[]⟩ : ByteArray) := rfl
    rw [← e0]; exact h0)
  first | exact this | exact this.mono fun e w' ⟨a, b⟩ => ⟨a, b.below⟩
end Go.Proofs.Ytgdnljhndjlefaa.QNeedFits

/- The document's order of needs is the stable one. No conditions beyond those that each theorem names. -/
namespace Go.Proofs.Ytgdnljhndjlefaa.QNeedFits
open Go.RowKit Go.Proofs.Ytgdnljhndjlefaa.PNeedFits Go.Proofs.YtgdnljhndjlefaaW.PrintWords Go.Proofs.YtgdnljhndjlefaaW.PrintLast Go.Proofs.YtgdnljhndjlefaaW.PrintMore Go.Proofs.Ytgdnljhndjlefaa.MMaps
set_option linter.unusedVariables false
set_option linter.unusedSimpArgs false
set_option maxRecDepth 100000
/-! ### One is put in -/
def insR (e : Nr) : List Nr → List Nr
  | [] => [e]
  | o :: r => if Op.bytesLess e.f0.toList o.f0.toList = true then e :: o :: r else o :: insR e r
theorem insR_len (e : Nr) : ∀ L, (insR e L).length = L.length + 1
  | [] => rfl
  | o :: r => by
    unfold insR
    split
    · rfl
    · simp [insR_len e r]
theorem l1_in (x0 out : List Nr) (i : Int) : ∀ (d j k : Nat) (next : List Nr), j + d = out.length → out.length ≤ 1000 → next.length + d ≤ 2000000 → dayshiftref14_Sorted.l1 (k + (d + 1)) x0 out i next true (j : Int) = dayshiftref14_Sorted.l0 k x0 (next ++ out.drop j) (wrap64 (i + 1)) := by
  intro d
  induction d with
  | zero =>
    intro j k next hj hl hn
    rw [dayshiftref14_Sorted.l1.eq_2, if_neg (by omega), if_pos rfl, List.drop_eq_nil_of_le (by omega), List.append_nil]
  | succ d ih =>
    intro j k next hj hl hn
    rw [show k + (d + 1 + 1) = (k + (d + 1)) + 1 by omega, dayshiftref14_Sorted.l1.eq_2, if_pos (by omega), if_pos rfl, if_pos (by omega), if_pos (by omega), rdnr_at out j (by omega), wrap64_id (by omega) (by omega)]
    have e : ((j : Int) + 1) = ((j + 1 : Nat) : Int) := by omega
    rw [e, ih (j + 1) k _ (by omega) hl (by simp; omega), List.drop_eq_getElem_cons (show j < out.length by omega), List.append_assoc]
    rfl
theorem l1_out (x0 out : List Nr) (i : Nat) (hi : i < x0.length) : ∀ (d j k : Nat) (next : List Nr), j + d = out.length → out.length ≤ 1000 → next.length + d ≤ 1000000 → dayshiftref14_Sorted.l1 (k + (d + 1)) x0 out (i : Int) next false (j : Int) = dayshiftref14_Sorted.l0 k x0 (next ++ insR x0[i] (out.drop j)) (wrap64 ((i : Int) + 1)) := by
  intro d
  induction d with
  | zero =>
    intro j k next hj hl hn
    rw [dayshiftref14_Sorted.l1.eq_2, if_neg (by omega), if_neg (by simp), if_pos (by omega), if_pos (by omega), if_pos (by omega), rdnr_at x0 i hi, List.drop_eq_nil_of_le (by omega)]
    rfl
  | succ d ih =>
    intro j k next hj hl hn
    have e : ((j : Int) + 1) = ((j + 1 : Nat) : Int) := by omega
    rw [show k + (d + 1 + 1) = (k + (d + 1)) + 1 by omega, dayshiftref14_Sorted.l1.eq_2, if_pos (by omega), if_neg (by simp), if_pos (by omega), if_pos (by omega), if_pos (by omega), rdnr_at x0 i hi, rdnr_at out j (by omega), wrap64_id (x := (j : Int) + 1) (by omega) (by omega), e]
    rw [List.drop_eq_getElem_cons (show j < out.length by omega)]
    unfold insR
    by_cases hlt : Op.bytesLess x0[i].f0.toList out[j].f0.toList = true
    · rw [if_pos hlt, if_pos hlt, if_pos (by omega)]
      show (if (next ++ [_]).length < 4398046511104 then _ else none) = _
      rw [if_pos (by simp; omega), l1_in x0 out i d (j + 1) k _ (by omega) hl (by simp; omega), List.append_assoc, List.append_assoc]
      rfl
    · rw [if_neg hlt, if_neg hlt, if_pos (by omega), ih (j + 1) k _ (by omega) hl (by simp; omega), List.append_assoc]
      rfl
theorem refSorted_l0 (x0 : List Nr) (hl : x0.length ≤ 1000) : ∀ (d i : Nat) (out : List Nr), i + d = x0.length → out.length = i → ∃ k, dayshiftref14_Sorted.l0 k x0 out (i : Int) = some ((x0.drop i).foldl (fun o e => insR e o) out) := by
  intro d
  induction d with
  | zero =>
    intro i out hi ho
    exact ⟨1, by rw [dayshiftref14_Sorted.l0.eq_2, if_neg (by omega), List.drop_eq_nil_of_le (by omega)]; rfl⟩
  | succ d ih =>
    intro i out hi ho
    obtain ⟨k, hk⟩ := ih (i + 1) (insR x0[i] out) (by omega) (by rw [insR_len]; omega)
    refine ⟨(k + (out.length + 1)) + 1, ?_⟩
    rw [dayshiftref14_Sorted.l0.eq_2, if_pos (by omega)]
    have := l1_out x0 out i (by omega) out.length 0 k [] (by omega) (by omega) (by simp; omega)
    rw [List.nil_append, List.drop_zero, wrap64_id (by omega) (by omega)] at this
    rw [show ((0 : Nat) : Int) = 0 from rfl] at this
    rw [this, show ((i : Int) + 1) = ((i + 1 : Nat) : Int) by omega, hk, List.drop_eq_getElem_cons (show i < x0.length by omega)]
    rfl
def refSort (L : List Nr) : List Nr := L.foldl (fun o e => insR e o) []
theorem refSorted.calls (A0 : Option Addr) (c0 : Nat) (L : List Nr) (w : World) (h : Kd.C k80 w A0 L.length L) (hc : L.length ≤ c0) (hl : L.length ≤ 1000) :
    Calls Try.prog 26 #[.slice A0 L.length c0] w fun e w' => ∃ v, e = .returned v ∧ Kd.R k80 80 w' w.heap.size (fun _ => True) v (refSort L) ∧ Below w.heap.size w w' := by
  obtain ⟨k, hk⟩ := refSorted_l0 L hl L.length 0 [] (by omega) rfl
  exact dayshiftref14_Sorted.calls k A0 c0 L (refSort L) w h hc hk
/-! ### It is the stable order -/
def insT (e : Tg) : List Tg → List Tg
  | [] => [e]
  | o :: r => if ltN e.1 o.1 = true then e :: o :: r else o :: insT e r
theorem insT_perm (e : Tg) : ∀ L, (insT e L).Perm (e :: L)
  | [] => List.Perm.refl _
  | o :: r => by
    unfold insT
    split
    · exact List.Perm.refl _
    · exact ((insT_perm e r).cons o).trans (List.Perm.swap _ _ _)
theorem insT_asc (e : Tg) : ∀ L, Asc L → (∀ o ∈ L, o.2 < e.2) → Asc (insT e L)
  | [], _, _ => List.pairwise_singleton _ _
  | o :: r, h, ht => by
    obtain ⟨h1, h2⟩ := List.pairwise_cons.mp h
    unfold insT
    split
    · rename_i hlt
      have he : ltT e o := (ltT_late (ht o (.head _))).mpr hlt
      exact List.pairwise_cons.mpr ⟨fun x hx => by
        rcases List.mem_cons.mp hx with q | q
        · rw [q]; exact he
        · exact ltT_trans he (h1 x q), h⟩
    · rename_i hlt
      have ho : ltT o e := (ltT_early (ht o (.head _))).mpr (by simpa using hlt)
      refine List.pairwise_cons.mpr ⟨fun x hx => ?_, insT_asc e r h2 (fun x hx => ht x (.tail _ hx))⟩
      rcases List.mem_cons.mp ((insT_perm e r).mem_iff.mp hx) with q | q
      · rw [q]; exact ho
      · exact h1 x q
theorem insT_un (e : Nr) (i : Nat) : ∀ (L : List Nr) (T : List Tg), un T = L.map toN → un (insT (toN e, i) T) = (insR e L).map toN
  | [], [], _ => rfl
  | [], _ :: _, h => by cases h
  | _ :: _, [], h => by cases h
  | o :: r, t :: s, h => by
    obtain ⟨h1, h2⟩ : t.1 = toN o ∧ un s = r.map toN := by simpa [un] using h
    unfold insT insR
    rw [h1]
    have e1 : ltN (toN e) (toN o) = Op.bytesLess e.f0.toList o.f0.toList := rfl
    rw [e1]
    split
    · show (toN e) :: t.1 :: un s = _
      rw [h1, h2]; rfl
    · show t.1 :: un (insT (toN e, i) s) = _
      rw [h1, insT_un e i r s h2]; rfl
theorem ref_fold : ∀ (L out : List Nr) (i : Nat) (T T0 : List Tg), un T = out.map toN → Run T T0 → (∀ t ∈ T0, t.2 < i) → ∃ T', Run T' (T0 ++ tagFrom i (L.map toN)) ∧ un T' = (L.foldl (fun o e => insR e o) out).map toN
  | [], out, i, T, T0, h1, h2, _ => ⟨T, by simpa [tagFrom] using h2, h1⟩
  | e :: r, out, i, T, T0, h1, h2, h3 => by
    have hp := insT_perm (toN e, i) T
    have ha := insT_asc (toN e, i) T h2.asc (fun o ho => h3 o (h2.perm.mem_iff.mp ho))
    obtain ⟨T', k1, k2⟩ := ref_fold r (insR e out) (i + 1) (insT (toN e, i) T) (T0 ++ [(toN e, i)]) (insT_un e i out T h1)
      ⟨hp.trans ((h2.perm.cons _).trans (List.perm_append_singleton _ _).symm), ha⟩ (fun t ht => by
        rcases List.mem_append.mp ht with q | q
        · have := h3 t q; omega
        · rw [List.mem_singleton] at q; rw [q]; show i < i + 1; omega)
    exact ⟨T', by simpa [tagFrom] using k1, k2⟩
theorem refSort_stably (L : List Nr) : Stably (L.map toN) ((refSort L).map toN) := by
  obtain ⟨T', k1, k2⟩ := ref_fold L [] 0 [] [] rfl ⟨List.Perm.refl _, List.Pairwise.nil⟩ (fun t h => by cases h)
  exact ⟨T', by simpa using k1, k2⟩
end Go.Proofs.Ytgdnljhndjlefaa.QNeedFits

/- Needs of the program and of the reference are the same. No conditions beyond those that each theorem names. -/
namespace Go.Proofs.Ytgdnljhndjlefaa.QNeedFits
open Go.RowKit Go.Proofs.Ytgdnljhndjlefaa.PNeedFits Go.Proofs.YtgdnljhndjlefaaW.PrintWords Go.Proofs.YtgdnljhndjlefaaW.PrintLast Go.Proofs.YtgdnljhndjlefaaW.PrintMore Go.Proofs.Ytgdnljhndjlefaa.MMaps
set_option linter.unusedVariables false
set_option linter.unusedSimpArgs false
set_option maxRecDepth 100000
theorem same14_l0 (L : List Nr) (hl : L.length ≤ 100000) : ∀ (d i k : Nat), i + d = L.length → d + 1 ≤ k → dayshiftlaw14_same.l0 k (L.map toN) L (i : Int) = some true := by
  intro d
  induction d with
  | zero =>
    intro i k hi hk
    obtain ⟨k, rfl⟩ : ∃ q, k = q + 1 := ⟨k - 1, by omega⟩
    rw [dayshiftlaw14_same.l0.eq_2, if_neg (by simp; omega)]
  | succ d ih =>
    intro i k hi hk
    obtain ⟨k, rfl⟩ : ∃ q, k = q + 1 := ⟨k - 1, by omega⟩
    have e : rd_T52 (L.map toN) (i : Int) = toN L[i] := by rw [rdnd_at _ i (by simp; omega), List.getElem_map]
    rw [dayshiftlaw14_same.l0.eq_2, if_pos (by simp; omega), if_pos (by omega), if_pos (by omega), e, rdnr_at L i (by omega), if_pos (show (toN L[i]).f0.toList = L[i].f0.toList from rfl), if_pos (show (toN L[i]).f1 = L[i].f1 from rfl), if_pos (show (toN L[i]).f2 = L[i].f2 from rfl), wrap64_id (by omega) (by omega)]
    exact ih (i + 1) k (by omega) (by omega)
theorem same14.calls (n : Nat) (L : List Nr) (M : List Nd) (hM : M = L.map toN) (hn : L.length = n) (hl : n ≤ 100000) (A1 A2 : Option Addr) (c1 c2 : Nat) (w : World) (h1 : Kd.C k52 w A1 n M) (h1c : n ≤ c1) (h2 : Kd.C k80 w A2 n L) (h2c : n ≤ c2) :
    Calls Try.prog 25 #[.slice A1 n c1, .slice A2 n c2] w fun e w' => e = .returned (.bool true) ∧ Below w.heap.size w w' := by
  subst hn
  subst hM
  have e : (L.map toN).length = L.length := List.length_map ..
  have := dayshiftlaw14_same.calls (L.length + 1) A1 c1 (L.map toN) A2 c2 L true w (by rw [e]; exact h1) (by rw [e]; exact h1c) h2 h2c rfl (by unfold dayshiftlaw14_same.f; rw [if_pos (by simp)]; exact same14_l0 L hl L.length 0 (L.length + 1) (by omega) (by omega))
  rw [e] at this
  exact this.mono fun e w' ⟨a, b⟩ => ⟨a, b.below⟩
theorem textB_size (L : List Nr) (hn : ∀ e ∈ L, e.f0.size ≤ 1000000000 ∧ e.f1 ≤ 9223372036854775807) (hl : L.length ≤ 1000) : (Lib.join (((L.map toN).map pieceB).map (·.data.toList)) sp1.data.toList).length ≤ 140737488355328 := by
  have h := accB_size L hn L.length (Nat.le_refl _)
  have e : (accB L L.length).size = (Lib.join (((L.map toN).map pieceB).map (·.data.toList)) sp1.data.toList).length := by
    unfold accB joinB
    rw [List.take_length, List.map_map (f := toN)]
    exact List.size_toArray
  omega
theorem Text.of (n : Nat) (L : List Nr) (hn : L.length = n) (hw : ∀ e ∈ L, e.f0.size ≤ 1000000000 ∧ e.f1 ≤ 9223372036854775807) (hl : n ≤ 1000) (A : Option Addr) (c : Nat) (w : World) (hC : Kd.C k52 w A n (L.map toN)) (hc : n ≤ c) :
    Calls Try.prog 27 #[.slice A n c] w fun e w' => e = .returned (.string (textB (L.map toN))) ∧ Below w.heap.size w w' := by
  subst hn
  have e : (L.map toN).length = L.length := List.length_map ..
  have := Text.calls join_ok join_none A c (L.map toN) w (by rw [e]; exact hC) (by rw [e]; exact hc) (by rw [e]; omega) (fun n hn => by
    obtain ⟨x, hx, rfl⟩ := List.mem_map.mp hn
    exact ⟨Nat.le_trans (hw x hx).1 (by decide), (hw x hx).2⟩) (textB_size L hw hl)
  rw [e] at this
  exact this
/-! ### The law's arguments, within the bound -/
def wuH (h : Hd) : Prop := (Lit.int .i64 h.f0).wf = true ∧ h.f1.size ≤ 1048576 ∧ (Lit.int .i64 h.f2).wf = true ∧ (Lit.int .i64 h.f3).wf = true
def wuN (n : Nr) : Prop := n.f0.size ≤ 1048576 ∧ (Lit.int .i64 n.f1).wf = true ∧ (Lit.int .i64 n.f2).wf = true
theorem ru_held1 (w : World) (n : Nat) : Ru Try.prog w 56 k56 wuH n := by
  cases n with
  | zero => exact Ru.zero _ _
  | succ n =>
    have h := Ru.struct (P := Try.prog) (w := w) (n := n) Try.underlying56 (by kernel_rfl) (RuF.cons (off := 0) rfl (by kernel_rfl) (Ru.int Try.underlying2) (RuF.cons rfl (by kernel_rfl) (Ru.string Try.underlying9) (RuF.cons rfl (by kernel_rfl) (Ru.int Try.underlying2) (RuF.one rfl (by kernel_rfl) (Ru.int Try.underlying3)))))
    intro H enc cs x hx hw
    obtain ⟨⟨⟨a0, a1, a2, a3⟩, hk, o0, o1, o2, o3⟩, h3⟩ := h H enc cs x hx hw
    exact ⟨⟨⟨a0, a1, a2, a3⟩, hk, o0, o1, o2, o3⟩, h3⟩
theorem ru_helds (w : World) (n : Nat) : Ru Try.prog w 54 (Kd.slice 56 k56) (fun l => l.length ≤ 1048576 ∧ ∀ c ∈ l, wuH c) n := by
  cases n with
  | zero => exact Ru.zero _ _
  | succ n => exact Ru.slice (w := w) (n := n) (d := k56) (Ok := wuH) Try.underlying54 (by kernel_rfl) (by decide) (ru_held1 w n)
theorem ru_need1 (w : World) (n : Nat) : Ru Try.prog w 80 k80 wuN n := by
  cases n with
  | zero => exact Ru.zero _ _
  | succ n =>
    have h := Ru.struct (P := Try.prog) (w := w) (n := n) Try.underlying80 (by kernel_rfl) (RuF.cons (off := 0) rfl (by kernel_rfl) (Ru.string Try.underlying9) (RuF.cons rfl (by kernel_rfl) (Ru.int Try.underlying2) (RuF.one rfl (by kernel_rfl) (Ru.int Try.underlying3))))
    intro H enc cs x hx hw
    obtain ⟨⟨⟨a0, a1, a2⟩, hk, o0, o1, o2⟩, h3⟩ := h H enc cs x hx hw
    exact ⟨⟨⟨a0, a1, a2⟩, hk, o0, o1, o2⟩, h3⟩
theorem ru_needs (w : World) (n : Nat) : Ru Try.prog w 23 (Kd.slice 80 k80) (fun l => l.length ≤ 1048576 ∧ ∀ c ∈ l, wuN c) n := by
  cases n with
  | zero => exact Ru.zero _ _
  | succ n => exact Ru.slice (w := w) (n := n) (d := k80) (Ok := wuN) Try.underlying23 (by kernel_rfl) (by decide) (ru_need1 w n)
end Go.Proofs.Ytgdnljhndjlefaa.QNeedFits

/- The law NeedTexts, walked: for all that is held and needed, of a bulk that is bounded, it comes to true. Each theorem names its own conditions. -/
namespace Go.Proofs.Ytgdnljhndjlefaa.QNeedFits
open Go.RowKit Go.Proofs.Ytgdnljhndjlefaa.PNeedFits Go.Proofs.YtgdnljhndjlefaaW.PrintWords Go.Proofs.YtgdnljhndjlefaaW.PrintLast Go.Proofs.YtgdnljhndjlefaaW.PrintMore Go.Proofs.Ytgdnljhndjlefaa.MMaps
set_option linter.unusedVariables false
set_option linter.unusedSimpArgs false
set_option maxRecDepth 100000
theorem row_reads14 {w : World} {base : Nat} {v : Value} {L : List Nd} {ok : Nat → Prop} (h : k52.R 52 w base ok v L) : ∃ A c, v = .slice A L.length c ∧ L.length ≤ c ∧ Kd.C k52 w A L.length L ∧ (A = none → c = 0) := by
  obtain ⟨A, c, e, h1, h2⟩ := Kd.R_reads h
  refine ⟨A, c, e, h1, h2, ?_⟩
  rcases RowAt.of h with ⟨e2, _⟩ | ⟨g, cap, e2, _⟩
  · rw [e] at e2; injection e2 with e3 _ e4; exact fun _ => e4
  · rw [e] at e2; injection e2 with e3; intro q; rw [q] at e3; cases e3
theorem SortedAll.of (A : Option Addr) (c n : Nat) (F : List Nr) (hn : F.length = n) (w : World) (hC : Kd.C k52 w A n (F.map toN)) (hc : n ≤ c) (hl : n ≤ 100000) (ha : A = none → c = 0) :
    Calls Try.prog 23 #[.slice A n c] w fun e w' => ∃ v, e = .returned v ∧ Kd.R k52 52 w' w.heap.size (fun _ => True) v ((refSort F).map toN) ∧ Below w.heap.size w w' := by
  subst hn
  have e : (F.map toN).length = F.length := List.length_map ..
  have := SortedAll.calls A c (F.map toN) w (by rw [e]; exact hC) (by rw [e]; exact hc) (by rw [e]; exact hl) ha
  rw [e] at this
  exact this.mono fun e w' ⟨v, M, h1, h2, h3, h4⟩ => by
    obtain rfl := h2.uniq (refSort_stably F)
    exact ⟨v, h1, h3, h4⟩
theorem refSort_len (F : List Nr) : (refSort F).length = F.length := by
  have := (refSort_stably F).len
  simpa using this
theorem Total.of (A : Option Addr) (c : Nat) (l : List Hd) (s : ByteArray) (w : World) (hC : Kd.C k57 w A l.length (l.map toP)) (hc : l.length ≤ c) (hl : l.length ≤ 4398046511104) (hw : ∀ h ∈ l, -9223372036854775808 ≤ h.f2) :
    Calls Try.prog 20 #[.slice A l.length c, .string s] w fun e w' => e = .returned (.tuple #[.int .i64 (totOf s (l.map toP)).n, .int .i64 (totOf s (l.map toP)).s, .int .i64 (totOf s (l.map toP)).x]) ∧ Below w.heap.size w w' := by
  have e : (l.map toP).length = l.length := List.length_map ..
  have := Total.calls A c (l.map toP) s w (by rw [e]; exact hC) (by rw [e]; exact hc) (by rw [e]; exact hl) (fun h hh => by
    obtain ⟨x, hx, rfl⟩ := List.mem_map.mp hh
    exact hw x hx)
  rw [e] at this
  exact this
theorem drew_alloc (w : World) (o : Obj) : (w.alloc o).drew = w.drew.alloc o := rfl
set_option maxHeartbeats 32000000 in
theorem texts_walk (A0 : Option Addr) (c0 : Nat) (l : List Hd) (s : ByteArray) (A1 : Option Addr) (c1 : Nat) (F : List Nr) (w : World) (hl : Kd.C k56 w A0 l.length l) (hlc : l.length ≤ c0) (hlw : ∀ r ∈ l, wuH r) (hll : l.length ≤ 1048576)
    (hF : Kd.C k80 w A1 F.length F) (hFc : F.length ≤ c1) (hFw : ∀ n ∈ F, wuN n) (hFl : F.length ≤ 1048576) :
    Calls Try.prog 7 #[.slice A0 l.length c0, .string s, .slice A1 F.length c1] w fun e w' => e = .returned (.bool true) ∧ Below w.heap.size w w' := by
  have hk := fun (W : World) => known.calls W
  have HF := Aside0.mk hF
  have HL := Aside0.mk hl
  clear hF hl
  rcases more_than F.length 100 with ⟨z1, b1, b2⟩ | ⟨z1, b1, b2⟩
  · go_enter Try.func7, Try.ntmps7
    go_wp2_with (go_at_call 8; refine (hk _).mono ?_; rintro e w1 ⟨rfl, b⟩)
    go_ret
    exact ⟨rfl, b⟩
  have hw9 : ∀ e ∈ F, e.f0.size ≤ 1000000000 ∧ e.f1 ≤ 9223372036854775807 := fun e he => ⟨Nat.le_trans (hFw e he).1 (by decide), by
    have := (hFw e he).2.1
    simp [Lit.wf, IntKind.min, IntKind.max, IntKind.signed, IntKind.bits] at this
    omega⟩
  have hlw2 : ∀ h ∈ l, -9223372036854775808 ≤ h.f2 ∧ h.f2 ≤ 9223372036854775807 := fun h hh => by
    have := (hlw h hh).2.2.1
    simp [Lit.wf, IntKind.min, IntKind.max, IntKind.signed, IntKind.bits] at this
    omega
  have HW9 := Aside0.mk hw9
  have HLW := Aside0.mk hlw2
  clear hw9 hlw2 hlw hFw
  go_enter Try.func7, Try.ntmps7
  go_wp2
  go_loopg [7, 8] l.length (fun gg v7 v8 wr => ∃ (i : Nat), i ≤ l.length ∧ l.length - i ≤ gg ∧ v8 = .int .i64 i ∧ Aside0 (Kd.R k57 57 wr w.heap.size (fun _ => True) v7 ((l.take i).map toP)) ∧ Aside0 (Below w.heap.size w wr))
  case atStart => exact ⟨0, Nat.zero_le _, by omega, rfl, ⟨Kd.R_nil _ _ _ _ _⟩, ⟨Below.refl _ _⟩⟩
  case round =>
    obtain ⟨i, hi, hg, rfl, HR, HB⟩ := hrel
    by_cases hlt : i < l.length
    · have bb : decide ((i : Int) < (l.length : Int)) = true := decide_eq_true (by omega)
      obtain ⟨ad, e, x0, x1, x2, x3⟩ := at_T56 HL.out (i : Int) (by omega) (by omega)
      cases e
      rw [rdhd_at l i hlt, Int.toNat_natCast] at x0 x1 x2 x3
      have hbk := World.block_lt_of_cell? w _ x0
      have HTK := Aside0.mk (show (l.take (i + 1)).map toP = (l.take i).map toP ++ [toP l[i]] by rw [List.take_succ_eq_append_getElem hlt, List.map_append]; rfl)
      obtain ⟨x, hx⟩ : ∃ x, l[i] = x := ⟨_, rfl⟩
      rw [hx] at x0 x1 x2 x3 HTK
      clear hx
      have y0 := x0
      have y1 := x1
      have y2 := x2
      have y3 := x3
      replace x0 := (HB.out.cell hbk).trans x0
      replace x1 := (HB.out.cell (p := ⟨(ad.add (i * 4)).block, (ad.add (i * 4)).off + 1, none⟩) hbk).trans x1
      replace x2 := (HB.out.cell (p := ⟨(ad.add (i * 4)).block, (ad.add (i * 4)).off + 2, none⟩) hbk).trans x2
      replace x3 := (HB.out.cell (p := ⟨(ad.add (i * 4)).block, (ad.add (i * 4)).off + 3, none⟩) hbk).trans x3
      clear HL
      have HCE := Aside0.mk (fun (X : World) (hX : Below w.heap.size w X) => show X.cell? (ad.add (i * 4)) = some (.int .i64 x.f0) ∧ X.cell? ⟨(ad.add (i * 4)).block, (ad.add (i * 4)).off + 1, none⟩ = some (.string x.f1) ∧ X.cell? ⟨(ad.add (i * 4)).block, (ad.add (i * 4)).off + 2, none⟩ = some (.int .i64 x.f2) ∧ X.cell? ⟨(ad.add (i * 4)).block, (ad.add (i * 4)).off + 3, none⟩ = some (.int .i64 x.f3) from ⟨(hX.cell hbk).trans y0, (hX.cell (p := ⟨(ad.add (i * 4)).block, (ad.add (i * 4)).off + 1, none⟩) hbk).trans y1, (hX.cell (p := ⟨(ad.add (i * 4)).block, (ad.add (i * 4)).off + 2, none⟩) hbk).trans y2, (hX.cell (p := ⟨(ad.add (i * 4)).block, (ad.add (i * 4)).off + 3, none⟩) hbk).trans y3⟩)
      clear y0 y1 y2 y3
      go_upto_region 7 with (fail)
      go_region_held3 (fun X => X.cell? (ad.add (i * 4)) = some (.int .i64 x.f0) ∧ X.cell? ⟨(ad.add (i * 4)).block, (ad.add (i * 4)).off + 1, none⟩ = some (.string x.f1) ∧ X.cell? ⟨(ad.add (i * 4)).block, (ad.add (i * 4)).off + 2, none⟩ = some (.int .i64 x.f2) ∧ X.cell? ⟨(ad.add (i * 4)).block, (ad.add (i * 4)).off + 3, none⟩ = some (.int .i64 x.f3)) (first | exact HCE.out _ HB.out | exact HCE.out _ (below_drew1 HB.out) | exact HCE.out _ (below_drew1 (below_alloc HB.out _)) | exact HCE.out _ (below_alloc HB.out _) | exact HCE.out _ HB2.out) (first
        | (rw [drew_alloc]; refine Kd.R_append_step k57 (w0 := w) w.heap.size (by rfl) (.tmp 27) (.tmp 49) 36 57 (.agg #[.int .i64 0, .string ⟨#[]⟩, .int .i64 0, .int .i64 0]) 40 rfl Try.underlying36 infoP rfl (by decide) (by decide) u7 ((l.take i).map toP) (toP x) [.int .i64 x.f0, .string x.f1, .int .i64 x.f2, .int .i64 x.f3] (fun _ => True) (fun _ => False) rfl rfl (k57_mkM _ _ _ (toP x)) (fun _ hk => hk.elim) ?aF ?aO ?aB ?aS ?aL ?_; (case aF => exact (fun k hk => trivial)); (case aO => exact Kd.R_drew HR.out); (case aB => exact below_drew1 HB.out); (case aS => exact HB.out.size); (case aL => simp; omega); intro v5 w5 ho hb hg hat; have HO2 := Aside0.mk ho; have HB2 := Aside0.mk hb; have HG2 := Aside0.mk hg; clear ho hb hg hat))
      go_wp2
      go_roundg (l.length - (i + 1))
      case measure => omega
      case rel => exact ⟨i + 1, by omega, Nat.le_refl _, by go_num, ⟨by rw [HTK.out]; exact HO2.out⟩, HB2⟩
    · have bb : decide ((i : Int) < (l.length : Int)) = false := decide_eq_false (by omega)
      have hr := HR.out
      rw [List.take_of_length_le (by omega)] at hr
      obtain ⟨A3, k3, e2, hk3, hC3⟩ := Kd.R_reads hr
      rw [List.length_map] at e2 hk3 hC3
      subst e2
      clear hr HR
      have HC3 := Aside0.mk hC3
      have hq := HB.out
      clear hC3 HB
      have hT1 := fun (V : World) (hV : Kd.C k57 V A3 l.length (l.map toP)) => Total.of A3 k3 l s V hV hk3 (by omega) (fun h hh => (HLW.out h hh).1)
      have hT2 := fun (V : World) (hV : Below w.heap.size w V) => refTotal.calls A0 c0 l s V (Kd.C_below HL.out hV) hlc HLW.out (by omega)
      have hN1 := fun (V : World) (hV : Below w.heap.size w V) => needs.calls A1 c1 F V (Kd.C_below HF.out hV) hFc (by omega)
      have hS1 := fun (V : World) A c hC hc ha => SortedAll.of A c F.length F rfl V hC hc (by omega) ha
      have hS2 := fun (V : World) (hV : Below w.heap.size w V) => refSorted.calls A1 c1 F V (Kd.C_below HF.out hV) hFc (by omega)
      have hX1 := fun (V : World) A c hC hc => Text.of F.length F rfl HW9.out (by omega) A c V hC hc
      have hX2 := fun (V : World) (hV : Below w.heap.size w V) => refText.calls A1 c1 F V (Kd.C_below HF.out hV) hFc HW9.out (by omega)
      have hM1 := fun (V : World) A c A' c' h1 h1c h2 h2c => same14.calls F.length (refSort F) _ rfl (refSort_len F) (by omega) A A' c c' V h1 h1c h2 h2c
      have hM2 := fun (V : World) A c h1 h1c (hV : Below w.heap.size w V) => same14.calls F.length F _ rfl rfl (by omega) A A1 c c1 V h1 h1c (Kd.C_below HF.out hV) hFc
      have hZ1 : (F.map toN).length = F.length := List.length_map ..
      have hZ2 := refSort_len F
      have hZ3 : ((refSort F).map toN).length = F.length := by rw [List.length_map, hZ2]
      generalize refSort F = G at *
      generalize totOf s (l.map toP) = T at *
      generalize textB (F.map toN) = tx at *
      go_upto_region 12 with (first
        | (go_at_call 20; refine (hT1 _ HC3.out).mono ?_; rintro e x ⟨rfl, hB⟩; have q9 := below_go hq hq.size hB; clear hq hB; have hq := q9; clear q9)
        | (go_at_call 24; refine (hT2 _ hq).mono ?_; rintro e x ⟨rfl, hB⟩; have q9 := below_go hq hq.size hB.below; clear hq hB; have hq := q9; clear q9)
        | (go_at_call 13; refine (hN1 _ hq).mono ?_; rintro e w3 ⟨v, rfl, hR, hB⟩; obtain ⟨AF, kF, eF, hkF, hCF, hnF⟩ := row_reads14 hR; rw [hZ1] at eF hkF hCF; subst eF; have q9 := below_go hq hq.size hB; clear hq hR hB; have hq := q9; clear q9; have HCF := Aside0.mk hCF; clear hCF)
        | (go_at_call 23; refine (hS1 _ _ _ HCF.out hkF hnF).mono ?_; rintro e w4 ⟨v, rfl, hR, hB⟩; obtain ⟨AM, kM, eM, hkM, hCM⟩ := Kd.R_reads hR; rw [hZ3] at eM hkM hCM; subst eM; have q9 := below_go hq hq.size hB; have c9 := Kd.C_below HCF.out hB; clear hq hR hB HCF; have hq := q9; have HCF := Aside0.mk c9; have HCM := Aside0.mk hCM; clear q9 c9 hCM))
      have t1 : (T.n == T.n) = true := beq_self_eq_true _
      have t2 : (T.s == T.s) = true := beq_self_eq_true _
      have t3 : (T.x == T.x) = true := beq_self_eq_true _
      clear hT1 hT2 hN1 hS1 HC3 hnF
      go_wp2_with (first
        | (go_at_call 26; refine (hS2 _ hq).mono ?_; rintro e w5 ⟨v, rfl, hR, hB⟩; obtain ⟨AG, kG, eG, hkG, hCG⟩ := Kd.R_reads hR; rw [hZ2] at eG hkG hCG; subst eG; have q9 := below_go hq hq.size hB; have c9 := Kd.C_below HCF.out hB; have c8 := Kd.C_below HCM.out hB; clear hq hR hB HCF HCM; have hq := q9; have HCF := Aside0.mk c9; have HCM := Aside0.mk c8; have HCG := Aside0.mk hCG; clear q9 c9 c8 hCG)
        | (go_at_call 25; first
          | ((with_reducible refine (hM1 _ _ _ _ _ HCM.out hkM HCG.out hkG).mono ?_); rintro e x ⟨rfl, hB⟩; have q9 := below_go hq hq.size hB; have c9 := Kd.C_below HCF.out hB; clear hq hB HCF HCM HCG; have hq := q9; have HCF := Aside0.mk c9; clear q9 c9)
          | ((with_reducible refine (hM2 _ _ _ HCF.out hkF hq).mono ?_); rintro e x ⟨rfl, hB⟩; have q9 := below_go hq hq.size hB; clear hq hB; have hq := q9; clear q9))
        | (go_at_call 27; (with_reducible refine (hX1 _ _ _ HCF.out hkF).mono ?_); rintro e x ⟨rfl, hB⟩; have q9 := below_go hq hq.size hB; have c9 := Kd.C_below HCF.out hB; clear hq hB HCF; have hq := q9; have HCF := Aside0.mk c9; clear q9 c9)
        | (go_at_call 28; (with_reducible refine (hX2 _ hq).mono ?_); rintro e x ⟨rfl, hB⟩; have q9 := below_go hq hq.size hB; have c9 := Kd.C_below HCF.out hB; clear hq hB HCF; have hq := q9; have HCF := Aside0.mk c9; clear q9 c9)
        | (go_at_call 8; refine (hk _).mono ?_; rintro e x ⟨rfl, hB⟩; have q9 := below_go hq hq.size hB; clear hq hB; have hq := q9; clear q9))
      go_ret
      exact ⟨rfl, hq⟩
end Go.Proofs.Ytgdnljhndjlefaa.QNeedFits
