/- Conditions as keys of a map. No conditions beyond those that each theorem names. -/
import Derived.Test.YthneeibphelofaaPCondPlaysx
namespace Go.Proofs.Ythneeibphelofaa.QCondPlays
open Go.RowKit Go.Proofs.Ythneeibphelofaa.PCondPlays Go.Proofs.YthneeibphelofaaW.PrintWords Go.Proofs.YthneeibphelofaaW.PrintLast Go.Proofs.YthneeibphelofaaW.PrintMore
set_option linter.unusedVariables false
set_option linter.unusedSimpArgs false
theorem wrap64_id {x : Int} (h : -9223372036854775808 ≤ x) (h2 : x ≤ 9223372036854775807) : wrap64 x = x := by unfold wrap64; omega
abbrev C := S29
/-- A condition, as a value. -/
def cv (c : C) : Value := .agg #[.string c.f0, .int .i64 c.f1]
/-- One that can be: a name that memory holds, a number of 64 bits. -/
def wfC (c : C) : Prop := c.f0.size ≤ maxLen ∧ (Lit.int .i64 c.f1).wf = true
theorem klaw : Go.Maps.Keyed Try.prog 29 := Go.Maps.Keyed.of_law (deep_law_laid (by kernel_rfl) (m := 4) (by decide) (of_decide_eq_true (by kernel_rfl)) (by kernel_rfl) (by kernel_rfl))
theorem key_mk (c : C) (h : wfC c) : ∃ kl, keyOf Try.prog 29 (cv c) = some kl := by
  have hu := Try.underlying29
  have h9 := Try.underlying9
  have h2 := Try.underlying2
  have hc : Try.prog.cellsOf 29 = 2 := by kernel_rfl
  have hc9 : Try.prog.cellsOf 9 = 1 := by kernel_rfl
  have hc2 : Try.prog.cellsOf 2 = 1 := by kernel_rfl
  obtain ⟨d, hd⟩ : ∃ d, Try.prog.types.size = d + 1 := ⟨Try.prog.types.size - 1, by have : 0 < Try.prog.types.size := of_decide_eq_true (by kernel_rfl); omega⟩
  unfold keyOf cv
  rw [hu]
  simp only [hd]
  have hk : Try.prog.keyType 29 = true := by kernel_rfl
  have hf1 : Value.formed Try.prog 29 (Value.agg #[Value.string c.f0, Value.int IntKind.i64 c.f1]) = true := by
    unfold Value.formed
    simp [hu, hc]
  rw [hk, hf1]
  simp only [Bool.and_self, if_true]
  unfold Program.keyLits
  simp only [hu, Value.cells, hc]
  unfold Program.keyLits
  simp [h9, h2, h.1, h.2, hc9, hc2]
theorem key_inv {v : Value} {l : Lit} (h : keyOf Try.prog 29 v = some l) : ∃ c, wfC c ∧ v = cv c := by
  have hu := Try.underlying29
  have h9 := Try.underlying9
  have h2 := Try.underlying2
  have hc : Try.prog.cellsOf 29 = 2 := by kernel_rfl
  have hc9 : Try.prog.cellsOf 9 = 1 := by kernel_rfl
  have hc2 : Try.prog.cellsOf 2 = 1 := by kernel_rfl
  obtain ⟨d, hd⟩ : ∃ d, Try.prog.types.size = d + 1 := ⟨Try.prog.types.size - 1, by have : 0 < Try.prog.types.size := of_decide_eq_true (by kernel_rfl); omega⟩
  unfold keyOf at h
  rw [hu] at h
  simp only [hd] at h
  split at h
  · rename_i hf
    rw [Bool.and_eq_true] at hf
    obtain ⟨cs, rfl⟩ : ∃ cs, v = .agg cs := by
      have := hf.2
      unfold Value.formed at this
      cases v <;> simp [hu] at this
      exact ⟨_, rfl⟩
    have hs : cs.size = 2 := by
      have := hf.2
      unfold Value.formed at this
      simpa [hu, hc] using this
    obtain ⟨a, b, rfl⟩ : ∃ a b, cs = #[a, b] := by
      obtain ⟨cl⟩ := cs
      match cl, hs with
      | [a, b], _ => exact ⟨a, b, rfl⟩
    unfold Program.keyLits at h
    simp only [hu, Value.cells, hc] at h
    unfold Program.keyLits at h
    cases a <;> simp [h9, h2, hc9, hc2] at h
    rename_i s
    by_cases c1 : s.size ≤ maxLen
    · cases b <;> simp [h9, h2, hc9, hc2, c1] at h
      rename_i q n
      by_cases c2 : q = .i64 ∧ (Lit.int .i64 n).wf = true
      · obtain ⟨rfl, c2⟩ := c2
        exact ⟨⟨s, n⟩, ⟨c1, c2⟩, rfl⟩
      · rw [if_neg c2] at h
        cases h
    · simp [c1] at h
  · cases h
/-- What a condition reads as, as a key. -/
noncomputable def kl (c : C) : Lit := (keyOf Try.prog 29 (cv c)).getD (.bool false)
theorem kl_key {c : C} (h : wfC c) : keyOf Try.prog 29 (cv c) = some (kl c) := by
  obtain ⟨l, hl⟩ := key_mk c h
  unfold kl
  rw [hl]; rfl
theorem kl_is {c : C} (h : wfC c) : WideAt.IsKeyLit (kl c) := klaw.key (kl_key h)
theorem cv_inj {c d : C} (h : cv c = cv d) : c = d := by
  obtain ⟨a, b⟩ := c
  obtain ⟨e, f⟩ := d
  simp [cv] at h
  rw [h.1, h.2]
theorem kl_inj {c d : C} (hc : wfC c) (hd : wfC d) (h : kl c = kl d) : c = d := by
  have h1 := kl_key hc
  rw [h] at h1
  exact cv_inj (klaw.inj h1 (kl_key hd))
theorem kl_ne {c d : C} (hc : wfC c) (hd : wfC d) (h : c ≠ d) : kl c ≠ kl d := fun e => h (kl_inj hc hd e)
end Go.Proofs.Ythneeibphelofaa.QCondPlays
