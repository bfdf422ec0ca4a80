/- Sets of conditions: what a map of them reads as; lists of them in order. No conditions beyond those that each theorem names. -/
import Derived.Test.YthneeibphelofaaQCondPlaysCondKeys
namespace Go.Proofs.Ythneeibphelofaa.QCondPlays
open Go.RowKit Go.Proofs.Ythneeibphelofaa.PCondPlays Go.Proofs.YthneeibphelofaaW.PrintWords Go.Proofs.YthneeibphelofaaW.PrintLast Go.Proofs.YthneeibphelofaaW.PrintMore
open Go.Maps (has size Tidy)
set_option linter.unusedVariables false
set_option linter.unusedSimpArgs false
instance : DecidableEq C := fun a b => decidable_of_iff (a.f0.data = b.f0.data ∧ a.f1 = b.f1) (by
  obtain ⟨⟨a⟩, x⟩ := a
  obtain ⟨⟨b⟩, y⟩ := b
  simp)
theorem toList_data (s : ByteArray) : s.toList = s.data.toList := by
  have hz : s.data.toList.length = s.size := by rw [Array.length_toList]; rfl
  have h : ∀ (d i : Nat) (r : List UInt8), i + d = s.size → ByteArray.toList.loop s i r = r.reverse ++ s.data.toList.drop i := by
    intro d
    induction d with
    | zero =>
      intro i r hi
      unfold ByteArray.toList.loop
      rw [if_neg (by omega), List.drop_eq_nil_of_le (by omega), List.append_nil]
    | succ d ih =>
      intro i r hi
      unfold ByteArray.toList.loop
      rw [if_pos (by omega), ih (i + 1) _ (by omega)]
      have hlt : i < s.data.toList.length := by omega
      rw [List.drop_eq_getElem_cons hlt]
      simp [ByteArray.get!]
      rw [getElem!_pos s.data i (by simpa using hlt)]
  have := h s.size 0 [] (by omega)
  simpa [ByteArray.toList] using this
theorem toList_inj {a b : ByteArray} (h : a.toList = b.toList) : a = b := by
  rw [toList_data, toList_data] at h
  obtain ⟨⟨a⟩⟩ := a
  obtain ⟨⟨b⟩⟩ := b
  simp at h
  rw [h]
/-! ### The order of texts -/
theorem bl_irrefl : ∀ a : List UInt8, Op.bytesLess a a = false
  | [] => rfl
  | a :: r => by unfold Op.bytesLess; rw [bl_irrefl r]; simp
theorem bl_trans : ∀ a b c : List UInt8, Op.bytesLess a b = true → Op.bytesLess b c = true → Op.bytesLess a c = true
  | _, [], _, h, _ => by cases ‹List UInt8› <;> simp [Op.bytesLess] at h
  | _, _ :: _, [], _, h => by simp [Op.bytesLess] at h
  | [], _ :: _, _ :: _, _, _ => rfl
  | a :: x, b :: y, c :: z, h, k => by
    simp only [Op.bytesLess, Bool.or_eq_true, decide_eq_true_eq, Bool.and_eq_true, beq_iff_eq] at h k ⊢
    rcases h with h | ⟨rfl, h⟩
    · rcases k with k | ⟨rfl, k⟩
      · left; exact UInt8.lt_trans h k
      · left; exact h
    · rcases k with k | ⟨rfl, k⟩
      · left; exact k
      · right; exact ⟨rfl, bl_trans x y z h k⟩
theorem bl_total : ∀ a b : List UInt8, Op.bytesLess a b = false → Op.bytesLess b a = false → a = b
  | [], [], _, _ => rfl
  | [], _ :: _, h, _ => by simp [Op.bytesLess] at h
  | _ :: _, [], _, h => by simp [Op.bytesLess] at h
  | a :: x, b :: y, h, k => by
    simp only [Op.bytesLess, Bool.or_eq_false_iff, decide_eq_false_iff_not, Bool.and_eq_false_iff, beq_eq_false_iff_ne] at h k
    have e : a = b := UInt8.le_antisymm (UInt8.not_lt.mp k.1) (UInt8.not_lt.mp h.1)
    subst e
    have h2 : Op.bytesLess x y = false := by rcases h.2 with z | z; exact absurd rfl z; exact z
    have k2 : Op.bytesLess y x = false := by rcases k.2 with z | z; exact absurd rfl z; exact z
    rw [bl_total x y h2 k2]
/-- One condition stands ahead of another. -/
def ltC (a b : C) : Bool := Op.bytesLess a.f0.toList b.f0.toList || (decide (a.f0.toList = b.f0.toList) && decide (a.f1 < b.f1))
theorem ltC_irrefl (a : C) : ltC a a = false := by unfold ltC; rw [bl_irrefl]; simp
theorem ltC_trans {a b c : C} (h : ltC a b = true) (k : ltC b c = true) : ltC a c = true := by
  unfold ltC at *
  simp only [Bool.or_eq_true, Bool.and_eq_true, decide_eq_true_eq] at *
  rcases h with h | ⟨h1, h2⟩
  · rcases k with k | ⟨k1, k2⟩
    · left; exact bl_trans _ _ _ h k
    · left; rw [← k1]; exact h
  · rcases k with k | ⟨k1, k2⟩
    · left; rw [h1]; exact k
    · right; exact ⟨h1.trans k1, by omega⟩
theorem ltC_total {a b : C} (h : ltC a b = false) (k : ltC b a = false) : a = b := by
  unfold ltC at *
  simp only [Bool.or_eq_false_iff, Bool.and_eq_false_iff, decide_eq_false_iff_not] at *
  have e := bl_total _ _ h.1 k.1
  have e0 := toList_inj e
  have h2 := h.2.resolve_left (fun z => z e)
  have k2 := k.2.resolve_left (fun z => z e.symm)
  obtain ⟨a0, a1⟩ := a
  obtain ⟨b0, b1⟩ := b
  simp only at e0 h2 k2
  rw [e0, show a1 = b1 by omega]
def Sorted (L : List C) : Prop := L.Pairwise (fun a b => ltC a b = true)
theorem Sorted.nodup {L : List C} (h : Sorted L) : L.Nodup := List.Pairwise.imp (fun {a b} (z : ltC a b = true) (e : a = b) => by subst e; rw [ltC_irrefl] at z; cases z) h
/-- Two rising lists of the same conditions are one. -/
theorem Sorted.ext : ∀ {L M : List C}, Sorted L → Sorted M → (∀ c, c ∈ L ↔ c ∈ M) → L = M
  | [], [], _, _, _ => rfl
  | [], b :: M, _, _, h => by have := (h b).mpr (by simp); simp at this
  | a :: L, [], _, _, h => by have := (h a).mp (by simp); simp at this
  | a :: L, b :: M, hL, hM, h => by
    obtain ⟨l1, l2⟩ := List.pairwise_cons.mp hL
    obtain ⟨m1, m2⟩ := List.pairwise_cons.mp hM
    have e : a = b := by
      rcases List.mem_cons.mp ((h a).mp (by simp)) with e | e
      · exact e
      · rcases List.mem_cons.mp ((h b).mpr (by simp)) with f | f
        · exact f.symm
        · have := ltC_trans (l1 b f) (m1 a e)
          rw [ltC_irrefl] at this
          cases this
    subst e
    congr 1
    refine Sorted.ext l2 m2 (fun c => ⟨fun hc => ?_, fun hc => ?_⟩)
    · rcases List.mem_cons.mp ((h c).mp (by simp [hc])) with e | e
      · subst e
        have := l1 _ hc
        rw [ltC_irrefl] at this
        cases this
      · exact e
    · rcases List.mem_cons.mp ((h c).mpr (by simp [hc])) with e | e
      · subst e
        have := m1 _ hc
        rw [ltC_irrefl] at this
        cases this
      · exact e
theorem Sorted.filter {L : List C} (h : Sorted L) (p : C → Bool) : Sorted (L.filter p) := List.Pairwise.filter p h
/-- One more, in its place. -/
def ins (c : C) : List C → List C
  | [] => [c]
  | x :: r => if ltC c x = true then c :: x :: r else x :: ins c r
theorem ins_mem (c d : C) : ∀ L, d ∈ ins c L ↔ d = c ∨ d ∈ L
  | [] => by simp [ins]
  | x :: r => by
    unfold ins
    split
    · simp
    · simp only [List.mem_cons, ins_mem c d r]
      constructor
      · rintro (h | h | h)
        · exact .inr (.inl h)
        · exact .inl h
        · exact .inr (.inr h)
      · rintro (h | h | h)
        · exact .inr (.inl h)
        · exact .inl h
        · exact .inr (.inr h)
theorem ins_length (c : C) : ∀ L, (ins c L).length = L.length + 1
  | [] => rfl
  | x :: r => by
    unfold ins
    split
    · rfl
    · simp [ins_length c r]
theorem ins_sorted (c : C) : ∀ {L}, Sorted L → c ∉ L → Sorted (ins c L)
  | [], _, _ => List.pairwise_singleton _ _
  | x :: r, h, hc => by
    obtain ⟨h1, h2⟩ := List.pairwise_cons.mp h
    unfold ins
    split
    · rename_i z
      refine List.pairwise_cons.mpr ⟨fun y hy => ?_, h⟩
      rcases List.mem_cons.mp hy with e | e
      · rw [e]; exact z
      · exact ltC_trans z (h1 y e)
    · rename_i z
      refine List.pairwise_cons.mpr ⟨fun y hy => ?_, ins_sorted c h2 (fun hm => hc (by simp [hm]))⟩
      rcases (ins_mem c y r).mp hy with e | e
      · subst e
        cases hx : ltC x y with
        | true => rfl
        | false => exact absurd (ltC_total hx (by simpa using z)) (fun e => hc (by simp [e]))
      · exact h1 y e
/-- What a store holds behind one more. -/
def addL (c : C) (L : List C) : List C := if c ∈ L then L else ins c L
theorem addL_mem (c d : C) (L : List C) : d ∈ addL c L ↔ d = c ∨ d ∈ L := by
  unfold addL
  split
  · rename_i h
    constructor
    · exact .inr
    · rintro (e | e)
      · rw [e]; exact h
      · exact e
  · exact ins_mem c d L
theorem addL_sorted (c : C) {L : List C} (h : Sorted L) : Sorted (addL c L) := by
  unfold addL
  split
  · exact h
  · exact ins_sorted c h (by assumption)
theorem addL_length (c : C) (L : List C) : (addL c L).length = if c ∈ L then L.length else L.length + 1 := by
  unfold addL
  split
  · rfl
  · exact ins_length c L
/-! ### What a map of conditions reads as -/
abbrev no : DataW Unit := .lit (.bool false)
abbrev yes : DataW Unit := .lit (.bool true)
structure Is (D : DataW Unit) (L : List C) : Prop where
  tidy : Tidy D
  sorted : Sorted L
  wf : ∀ c ∈ L, wfC c
  has_ : ∀ c, wfC c → has D (kl c) = decide (c ∈ L)
  at_ : ∀ c, wfC c → D.atKey (kl c) no = .lit (.bool (decide (c ∈ L)))
  size_ : size D = L.length
theorem Is.new : Is (.map []) [] :=
  ⟨Go.Maps.tidy_empty, List.Pairwise.nil, (fun c hc => by cases hc), fun c _ => rfl, fun c _ => rfl, rfl⟩
theorem Is.put {D : DataW Unit} {L : List C} (h : Is D L) (c : C) (hc : wfC c) : Is (D.put (kl c) yes) (addL c L) where
  tidy := h.tidy.put (kl_is hc) _
  sorted := addL_sorted c h.sorted
  wf := fun d hd => by rcases (addL_mem c d L).mp hd with e | e; rw [e]; exact hc; exact h.wf d e
  has_ := fun d hd => by
    by_cases e : d = c
    · subst e
      rw [Go.Maps.has_put_same h.tidy.isMap (kl_is hc), decide_eq_true ((addL_mem d d L).mpr (.inl rfl))]
    · rw [Go.Maps.has_put_other (kl_ne hd hc e), h.has_ d hd, decide_eq_decide, addL_mem]
      exact ⟨.inr, fun z => z.resolve_left e⟩
  at_ := fun d hd => by
    by_cases e : d = c
    · subst e
      rw [Go.Maps.atKey_put_same h.tidy.isMap (kl_is hc), decide_eq_true ((addL_mem d d L).mpr (.inl rfl))]
    · rw [Go.Maps.atKey_put_other (kl_ne hd hc e), h.at_ d hd]
      congr 2
      rw [decide_eq_decide, addL_mem]
      exact ⟨.inr, fun z => z.resolve_left e⟩
  size_ := by
    rw [Go.Maps.size_put h.tidy, h.has_ c hc, addL_length, h.size_]
    by_cases e : c ∈ L
    · rw [if_pos (decide_eq_true e), if_pos e]
    · rw [if_neg (by simpa using e), if_neg e]
theorem filter_ne_length (c : C) : ∀ {L : List C}, L.Nodup → (L.filter (fun d => !decide (d = c))).length + (if c ∈ L then 1 else 0) = L.length
  | [], _ => rfl
  | x :: r, h => by
    obtain ⟨h1, h2⟩ := List.nodup_cons.mp h
    have ih := filter_ne_length c h2
    by_cases e : x = c
    · subst e
      rw [if_neg h1] at ih
      rw [List.filter_cons, if_neg (by simp), if_pos (by simp)]
      simp only [List.length_cons]
      omega
    · rw [List.filter_cons, if_pos (by simp [e])]
      have : (c ∈ x :: r) ↔ c ∈ r := by rw [List.mem_cons]; exact ⟨fun z => z.resolve_left (fun q => e q.symm), .inr⟩
      simp only [this, List.length_cons]
      omega
theorem Is.del {D : DataW Unit} {L : List C} (h : Is D L) (c : C) (hc : wfC c) : Is (D.del (kl c)) (L.filter (fun d => !decide (d = c))) where
  tidy := h.tidy.del _
  sorted := h.sorted.filter _
  wf := fun d hd => h.wf d (List.mem_filter.mp hd).1
  has_ := fun d hd => by
    by_cases e : d = c
    · subst e
      rw [Go.Maps.has_del_same, eq_comm, decide_eq_false_iff_not]
      simp
    · rw [Go.Maps.has_del_other (kl_ne hd hc e), h.has_ d hd, decide_eq_decide]
      simp [e]
  at_ := fun d hd => by
    by_cases e : d = c
    · subst e
      rw [Go.Maps.atKey_del_same, decide_eq_false (by simp)]
    · rw [Go.Maps.atKey_del_other (kl_ne hd hc e), h.at_ d hd]
      congr 2
      rw [decide_eq_decide]
      simp [e]
  size_ := by
    have a := Go.Maps.size_del (k := kl c) h.tidy
    have b := filter_ne_length c h.sorted.nodup
    rw [h.has_ c hc, h.size_] at a
    by_cases e : c ∈ L
    · rw [if_pos (decide_eq_true e)] at a
      rw [if_pos e] at b
      omega
    · rw [if_neg (by simpa using e)] at a
      rw [if_neg e] at b
      omega
end Go.Proofs.Ythneeibphelofaa.QCondPlays
