/-
  Texts as lists of numbers: how they are joined, and what their bytes are. No conditions beyond those that each theorem names.
-/
import Derived.Test.YtjfghphblgkoiaaWWords
import Derived.Laws.BytesArg
namespace Go.Proofs.Ytjfghphblgkoiaa.MText
open Go.RowKit Go.Proofs.YtjfghphblgkoiaaW.PrintWords
set_option linter.unusedVariables false
set_option linter.unusedSimpArgs false

theorem str_app (xs ys : List Int) : strOfNums xs ++ strOfNums ys = strOfNums (xs ++ ys) := by
  apply ByteArray.ext
  simp [strOfNums, ByteArray.data_append]
theorem str_size (xs : List Int) : (strOfNums xs).size = xs.length := strOfNums_size xs
theorem bt_str (xs : List Int) (i : Int) (h0 : 0 ≤ i) (h1 : i < xs.length) (hr : ∀ x ∈ xs, 0 ≤ x ∧ x ≤ 255) : bt (strOfNums xs) i = xs.getD i.toNat 0 := by
  have hi : i.toNat < xs.length := by omega
  have hs : i.toNat < (strOfNums xs).size := by rw [str_size]; exact hi
  unfold bt
  rw [dif_pos hs]
  have e : ((strOfNums xs)[i.toNat]'hs).toNat = (UInt8.ofNat (xs[i.toNat]).toNat).toNat := by
    congr 1
    simp [strOfNums, ByteArray.getElem_eq_getElem_data]
  rw [e, List.getD_eq_getElem?_getD, List.getElem?_eq_getElem hi]
  have := hr _ (List.getElem_mem hi)
  simp
  omega
end Go.Proofs.Ytjfghphblgkoiaa.MText
