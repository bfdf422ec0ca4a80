/- The keys of a pool's maps: names; an owner with a name. The order of texts. No conditions beyond those that each theorem names. -/
import Derived.Test.YtgepalpcaphbeaaPPoolPlaysx
import Derived.Test.YtgepalpcaphbeaaMMaps
namespace Go.Proofs.Ytgepalpcaphbeaa.QPoolPlays
open Go.RowKit Go.Proofs.Ytgepalpcaphbeaa.PPoolPlays Go.Proofs.YtgepalpcaphbeaaW.PrintWords Go.Proofs.YtgepalpcaphbeaaW.PrintLast Go.Proofs.YtgepalpcaphbeaaW.PrintMore Go.Proofs.Ytgepalpcaphbeaa.MMaps
set_option linter.unusedVariables false
set_option linter.unusedSimpArgs false
theorem wrap64_id {x : Int} (h : -9223372036854775808 ≤ x) (h2 : x ≤ 9223372036854775807) : wrap64 x = x := by unfold wrap64; omega
theorem toList_data (s : ByteArray) : s.toList = s.data.toList := by
  have hz : s.data.toList.length = s.size := by rw [Array.length_toList]; rfl
  have h : ∀ (d i : Nat) (r : List UInt8), i + d = s.size → ByteArray.toList.loop s i r = r.reverse ++ s.data.toList.drop i := by
    intro d
    induction d with
    | zero =>
      intro i r hi
      unfold ByteArray.toList.loop
      rw [if_neg (by omega), List.drop_eq_nil_of_le (by omega), List.append_nil]
    | succ d ih =>
      intro i r hi
      unfold ByteArray.toList.loop
      rw [if_pos (by omega), ih (i + 1) _ (by omega)]
      have hlt : i < s.data.toList.length := by omega
      rw [List.drop_eq_getElem_cons hlt]
      simp [ByteArray.get!]
      rw [getElem!_pos s.data i (by simpa using hlt)]
  have := h s.size 0 [] (by omega)
  simpa [ByteArray.toList] using this
theorem toList_inj {a b : ByteArray} (h : a.toList = b.toList) : a = b := by
  rw [toList_data, toList_data] at h
  obtain ⟨⟨a⟩⟩ := a
  obtain ⟨⟨b⟩⟩ := b
  simp at h
  rw [h]
/-! ### The order of texts -/
theorem bl_irrefl : ∀ a : List UInt8, Op.bytesLess a a = false
  | [] => rfl
  | a :: r => by unfold Op.bytesLess; rw [bl_irrefl r]; simp
theorem bl_trans : ∀ a b c : List UInt8, Op.bytesLess a b = true → Op.bytesLess b c = true → Op.bytesLess a c = true
  | _, [], _, h, _ => by cases ‹List UInt8› <;> simp [Op.bytesLess] at h
  | _, _ :: _, [], _, h => by simp [Op.bytesLess] at h
  | [], _ :: _, _ :: _, _, _ => rfl
  | a :: x, b :: y, c :: z, h, k => by
    simp only [Op.bytesLess, Bool.or_eq_true, decide_eq_true_eq, Bool.and_eq_true, beq_iff_eq] at h k ⊢
    rcases h with h | ⟨rfl, h⟩
    · rcases k with k | ⟨rfl, k⟩
      · left; exact UInt8.lt_trans h k
      · left; exact h
    · rcases k with k | ⟨rfl, k⟩
      · left; exact k
      · right; exact ⟨rfl, bl_trans x y z h k⟩
theorem bl_total : ∀ a b : List UInt8, Op.bytesLess a b = false → Op.bytesLess b a = false → a = b
  | [], [], _, _ => rfl
  | [], _ :: _, h, _ => by simp [Op.bytesLess] at h
  | _ :: _, [], _, h => by simp [Op.bytesLess] at h
  | a :: x, b :: y, h, k => by
    simp only [Op.bytesLess, Bool.or_eq_false_iff, decide_eq_false_iff_not, Bool.and_eq_false_iff, beq_eq_false_iff_ne] at h k
    have e : a = b := UInt8.le_antisymm (UInt8.not_lt.mp k.1) (UInt8.not_lt.mp h.1)
    subst e
    have h2 : Op.bytesLess x y = false := by rcases h.2 with z | z; exact absurd rfl z; exact z
    have k2 : Op.bytesLess y x = false := by rcases k.2 with z | z; exact absurd rfl z; exact z
    rw [bl_total x y h2 k2]
/-! ### Keys -/
structure Key where
  owner : Int
  name : ByteArray
/-- A key, as a value. -/
def kvK (c : Key) : Value := .agg #[.int .i64 c.1, .string c.2]
def wfK (c : Key) : Prop := (Lit.int .i64 c.1).wf = true ∧ c.2.size ≤ maxLen
theorem klaw : Go.Maps.Keyed Try.prog 73 := Go.Maps.Keyed.of_law (deep_law_laid (by kernel_rfl) (m := 4) (by decide) (of_decide_eq_true (by kernel_rfl)) (by kernel_rfl) (by kernel_rfl))
set_option maxRecDepth 100000 in
theorem key_mk (c : Key) (h : wfK c) : ∃ kl, keyOf Try.prog 73 (kvK c) = some kl := by
  have hu := Try.underlying73
  have h9 := Try.underlying9
  have h2 := Try.underlying2
  have hc : Try.prog.cellsOf 73 = 2 := by kernel_rfl
  have hc9 : Try.prog.cellsOf 9 = 1 := by kernel_rfl
  have hc2 : Try.prog.cellsOf 2 = 1 := by kernel_rfl
  obtain ⟨d, hd⟩ : ∃ d, Try.prog.types.size = d + 1 := ⟨Try.prog.types.size - 1, by have : 0 < Try.prog.types.size := of_decide_eq_true (by kernel_rfl); omega⟩
  unfold keyOf kvK
  rw [hu]
  simp only [hd]
  have hk : Try.prog.keyType 73 = true := by kernel_rfl
  have hf1 : Value.formed Try.prog 73 (Value.agg #[Value.int IntKind.i64 c.1, Value.string c.2]) = true := by
    unfold Value.formed
    simp [hu, hc]
  rw [hk, hf1]
  simp only [Bool.and_self, if_true]
  unfold Program.keyLits
  simp only [hu, Value.cells, hc]
  unfold Program.keyLits
  simp [h9, h2, h.1, h.2, hc9, hc2]
set_option maxRecDepth 100000 in
theorem key_inv {v : Value} {l : Lit} (h : keyOf Try.prog 73 v = some l) : ∃ c, wfK c ∧ v = kvK c := by
  have hu := Try.underlying73
  have h9 := Try.underlying9
  have h2 := Try.underlying2
  have hc : Try.prog.cellsOf 73 = 2 := by kernel_rfl
  have hc9 : Try.prog.cellsOf 9 = 1 := by kernel_rfl
  have hc2 : Try.prog.cellsOf 2 = 1 := by kernel_rfl
  obtain ⟨d, hd⟩ : ∃ d, Try.prog.types.size = d + 1 := ⟨Try.prog.types.size - 1, by have : 0 < Try.prog.types.size := of_decide_eq_true (by kernel_rfl); omega⟩
  unfold keyOf at h
  rw [hu] at h
  simp only [hd] at h
  split at h
  · rename_i hf
    rw [Bool.and_eq_true] at hf
    obtain ⟨cs, rfl⟩ : ∃ cs, v = .agg cs := by
      have := hf.2
      unfold Value.formed at this
      cases v <;> simp [hu] at this
      exact ⟨_, rfl⟩
    have hs : cs.size = 2 := by
      have := hf.2
      unfold Value.formed at this
      simpa [hu, hc] using this
    obtain ⟨a, b, rfl⟩ : ∃ a b, cs = #[a, b] := by
      obtain ⟨cl⟩ := cs
      match cl, hs with
      | [a, b], _ => exact ⟨a, b, rfl⟩
    unfold Program.keyLits at h
    simp only [hu, Value.cells, hc] at h
    unfold Program.keyLits at h
    cases a <;> simp [h9, h2, hc9, hc2] at h
    rename_i q n
    by_cases c2 : q = .i64 ∧ (Lit.int .i64 n).wf = true
    · obtain ⟨rfl, c2⟩ := c2
      cases b <;> simp [h9, h2, hc9, hc2, c2] at h
      rename_i s
      by_cases c1 : s.size ≤ maxLen
      · exact ⟨⟨n, s⟩, ⟨c2, c1⟩, rfl⟩
      · rw [if_neg c1] at h
        cases h
    · simp [c2] at h
  · cases h
/-- Keys of an owner and a name. -/
def KK : KeyKind Try.prog 73 Key where
  law := klaw
  kv := kvK
  wf := wfK
  lit := key_mk
  inv := fun v l h => key_inv h
  inj := fun c d h => by
    obtain ⟨a, b⟩ := c
    obtain ⟨e, f⟩ := d
    simp [kvK] at h
    rw [h.1, h.2]
/-- Keys that are names. -/
def KS : KeyKind Try.prog 9 ByteArray where
  law := Go.Maps.string_keyed Try.underlying9
  kv := Value.string
  wf := fun s => s.size ≤ maxLen
  lit := fun c h => ⟨_, Go.WideMaps.keyOf_string_mk Try.underlying9 h⟩
  inv := fun v l h => by obtain ⟨s, rfl, _, hs⟩ := Go.WideMaps.string_of_keyOf Try.underlying9 h; exact ⟨s, hs, rfl⟩
  inj := fun c d h => by cases h; rfl
end Go.Proofs.Ytgepalpcaphbeaa.QPoolPlays
