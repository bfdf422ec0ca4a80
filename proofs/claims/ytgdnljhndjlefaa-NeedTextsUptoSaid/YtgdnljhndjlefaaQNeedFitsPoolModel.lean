/- The keys of a pool's maps: names; an owner with a name. The order of texts. No conditions beyond those that each theorem names. -/
import Derived.Test.YtgdnljhndjlefaaPNeedFitsx
import Derived.Test.YtgdnljhndjlefaaMMaps
namespace Go.Proofs.Ytgdnljhndjlefaa.QNeedFits
open Go.RowKit Go.Proofs.Ytgdnljhndjlefaa.PNeedFits Go.Proofs.YtgdnljhndjlefaaW.PrintWords Go.Proofs.YtgdnljhndjlefaaW.PrintLast Go.Proofs.YtgdnljhndjlefaaW.PrintMore Go.Proofs.Ytgdnljhndjlefaa.MMaps
set_option linter.unusedVariables false
set_option linter.unusedSimpArgs false
theorem wrap64_id {x : Int} (h : -9223372036854775808 ≤ x) (h2 : x ≤ 9223372036854775807) : wrap64 x = x := by unfold wrap64; omega
theorem toList_data (s : ByteArray) : s.toList = s.data.toList := by
  have hz : s.data.toList.length = s.size := by rw [Array.length_toList]; rfl
  have h : ∀ (d i : Nat) (r : List UInt8), i + d = s.size → ByteArray.toList.loop s i r = r.reverse ++ s.data.toList.drop i := by
    intro d
    induction d with
    | zero =>
      intro i r hi
      unfold ByteArray.toList.loop
      rw [if_neg (by omega), List.drop_eq_nil_of_le (by omega), List.append_nil]
    | succ d ih =>
      intro i r hi
      unfold ByteArray.toList.loop
      rw [if_pos (by omega), ih (i + 1) _ (by omega)]
      have hlt : i < s.data.toList.length := by omega
      rw [List.drop_eq_getElem_cons hlt]
      simp [ByteArray.get!]
      rw [getElem!_pos s.data i (by simpa using hlt)]
  have := h s.size 0 [] (by omega)
  simpa [ByteArray.toList] using this
theorem toList_inj {a b : ByteArray} (h : a.toList = b.toList) : a = b := by
  rw [toList_data, toList_data] at h
  obtain ⟨⟨a⟩⟩ := a
  obtain ⟨⟨b⟩⟩ := b
  simp at h
  rw [h]
/-! ### The order of texts -/
theorem bl_irrefl : ∀ a : List UInt8, Op.bytesLess a a = false
  | [] => rfl
  | a :: r => by unfold Op.bytesLess; rw [bl_irrefl r]; simp
theorem bl_trans : ∀ a b c : List UInt8, Op.bytesLess a b = true → Op.bytesLess b c = true → Op.bytesLess a c = true
  | _, [], _, h, _ => by cases ‹List UInt8› <;> simp [Op.bytesLess] at h
  | _, _ :: _, [], _, h => by simp [Op.bytesLess] at h
  | [], _ :: _, _ :: _, _, _ => rfl
  | a :: x, b :: y, c :: z, h, k => by
    simp only [Op.bytesLess, Bool.or_eq_true, decide_eq_true_eq, Bool.and_eq_true, beq_iff_eq] at h k ⊢
    rcases h with h | ⟨rfl, h⟩
    · rcases k with k | ⟨rfl, k⟩
      · left; exact UInt8.lt_trans h k
      · left; exact h
    · rcases k with k | ⟨rfl, k⟩
      · left; exact k
      · right; exact ⟨rfl, bl_trans x y z h k⟩
theorem bl_total : ∀ a b : List UInt8, Op.bytesLess a b = false → Op.bytesLess b a = false → a = b
  | [], [], _, _ => rfl
  | [], _ :: _, h, _ => by simp [Op.bytesLess] at h
  | _ :: _, [], _, h => by simp [Op.bytesLess] at h
  | a :: x, b :: y, h, k => by
    simp only [Op.bytesLess, Bool.or_eq_false_iff, decide_eq_false_iff_not, Bool.and_eq_false_iff, beq_eq_false_iff_ne] at h k
    have e : a = b := UInt8.le_antisymm (UInt8.not_lt.mp k.1) (UInt8.not_lt.mp h.1)
    subst e
    have h2 : Op.bytesLess x y = false := by rcases h.2 with z | z; exact absurd rfl z; exact z
    have k2 : Op.bytesLess y x = false := by rcases k.2 with z | z; exact absurd rfl z; exact z
    rw [bl_total x y h2 k2]
/-! ### Keys -/
structure Key where
  owner : Int
  name : ByteArray
/-- A key, as a value. -/
def kvK (c : Key) : Value := .agg #[.int .i64 c.1, .string c.2]
def wfK (c : Key) : Prop := (Lit.int .i64 c.1).wf = true ∧ c.2.size ≤ maxLen
theorem klaw : Go.Maps.Keyed Try.prog 79 := Go.Maps.Keyed.of_law (deep_law_laid (by kernel_rfl) (m := 4) (by decide) (of_decide_eq_true (by kernel_rfl)) (by kernel_rfl) (by kernel_rfl))
set_option maxRecDepth 100000 in
theorem key_mk (c : Key) (h : wfK c) : ∃ kl, keyOf Try.prog 79 (kvK c) = some kl := by
  have hu := Try.underlying79
  have h9 := Try.underlying9
  have h2 := Try.underlying2
  have hc : Try.prog.cellsOf 79 = 2 := by kernel_rfl
  have hc9 : Try.prog.cellsOf 9 = 1 := by kernel_rfl
  have hc2 : Try.prog.cellsOf 2 = 1 := by kernel_rfl
  obtain ⟨d, hd⟩ : ∃ d, Try.prog.types.size = d + 1 := ⟨Try.prog.types.size - 1, by have : 0 < Try.prog.types.size := of_decide_eq_true (by kernel_rfl); omega⟩
  unfold keyOf kvK
  rw [hu]
  simp only [hd]
  have hk : Try.prog.keyType 79 = true := by kernel_rfl
  have hf1 : Value.formed Try.prog 79 (Value.agg #[Value.int IntKind.i64 c.1, Value.string c.2]) = true := by
    unfold Value.formed
    simp [hu, hc]
  rw [hk, hf1]
  simp only [Bool.and_self, if_true]
  unfold Program.keyLits
  simp only [hu, Value.cells, hc]
  unfold Program.keyLits
  simp [h9, h2, h.1, h.2, hc9, hc2]
set_option maxRecDepth 100000 in
theorem key_inv {v : Value} {l : Lit} (h : keyOf Try.prog 79 v = some l) : ∃ c, wfK c ∧ v = kvK c := by
  have hu := Try.underlying79
  have h9 := Try.underlying9
  have h2 := Try.underlying2
  have hc : Try.prog.cellsOf 79 = 2 := by kernel_rfl
  have hc9 : Try.prog.cellsOf 9 = 1 := by kernel_rfl
  have hc2 : Try.prog.cellsOf 2 = 1 := by kernel_rfl
  obtain ⟨d, hd⟩ : ∃ d, Try.prog.types.size = d + 1 := ⟨Try.prog.types.size - 1, by have : 0 < Try.prog.types.size := of_decide_eq_true (by kernel_rfl); omega⟩
  unfold keyOf at h
  rw [hu] at h
  simp only [hd] at h
  split at h
  · rename_i hf
    rw [Bool.and_eq_true] at hf
    obtain ⟨cs, rfl⟩ : ∃ cs, v = .agg cs := by
      have := hf.2
      unfold Value.formed at this
      cases v <;> simp [hu] at this
      exact ⟨_, rfl⟩
    have hs : cs.size = 2 := by
      have := hf.2
      unfold Value.formed at this
      simpa [hu, hc] using this
    obtain ⟨a, b, rfl⟩ : ∃ a b, cs = #[a, b] := by
      obtain ⟨cl⟩ := cs
      match cl, hs with
      | [a, b], _ => exact ⟨a, b, rfl⟩
    unfold Program.keyLits at h
    simp only [hu, Value.cells, hc] at h
    unfold Program.keyLits at h
    cases a <;> simp [h9, h2, hc9, hc2] at h
    rename_i q n
    by_cases c2 : q = .i64 ∧ (Lit.int .i64 n).wf = true
    · obtain ⟨rfl, c2⟩ := c2
      cases b <;> simp [h9, h2, hc9, hc2, c2] at h
      rename_i s
      by_cases c1 : s.size ≤ maxLen
      · exact ⟨⟨n, s⟩, ⟨c2, c1⟩, rfl⟩
      · rw [if_neg c1] at h
        cases h
    · simp [c2] at h
  · cases h
/-- Keys of an owner and a name. -/
def KK : KeyKind Try.prog 79 Key where
  law := klaw
  kv := kvK
  wf := wfK
  lit := key_mk
  inv := fun v l h => key_inv h
  inj := fun c d h => by
    obtain ⟨a, b⟩ := c
    obtain ⟨e, f⟩ := d
    simp [kvK] at h
    rw [h.1, h.2]
/-- Keys that are names. -/
def KS : KeyKind Try.prog 9 ByteArray where
  law := Go.Maps.string_keyed Try.underlying9
  kv := Value.string
  wf := fun s => s.size ≤ maxLen
  lit := fun c h => ⟨_, Go.WideMaps.keyOf_string_mk Try.underlying9 h⟩
  inv := fun v l h => by obtain ⟨s, rfl, _, hs⟩ := Go.WideMaps.string_of_keyOf Try.underlying9 h; exact ⟨s, hs, rfl⟩
  inj := fun c d h => by cases h; rfl
end Go.Proofs.Ytgdnljhndjlefaa.QNeedFits

/- What pools say, over lists: the document's way. No conditions beyond those that each theorem names. -/
namespace Go.Proofs.Ytgdnljhndjlefaa.QNeedFits
open Go.RowKit Go.Proofs.Ytgdnljhndjlefaa.PNeedFits Go.Proofs.YtgdnljhndjlefaaW.PrintWords Go.Proofs.YtgdnljhndjlefaaW.PrintLast Go.Proofs.YtgdnljhndjlefaaW.PrintMore Go.Proofs.Ytgdnljhndjlefaa.MMaps
set_option linter.unusedVariables false
set_option linter.unusedSimpArgs false
set_option maxRecDepth 100000
/-- A resource: f0 its name, f1 its units, f2 whether it is a lock. -/
abbrev Rs := S47
/-- What is held: f0 its owner, f1 the name, f2 the units, f3 the mode. -/
abbrev Hd := S56
/-- A need: f0 the name, f1 the units, f2 the mode. -/
abbrev Nd := S52
def eqS (a b : ByteArray) : Bool := a.toList == b.toList
theorem eqS_iff {a b : ByteArray} : eqS a b = true ↔ a = b := by
  unfold eqS
  rw [beq_iff_eq]
  exact ⟨toList_inj, fun h => by rw [h]⟩
theorem eqS_self (a : ByteArray) : eqS a a = true := eqS_iff.mpr rfl
theorem eqS_false {a b : ByteArray} : eqS a b = false ↔ a ≠ b := by rw [← Bool.not_eq_true, eqS_iff]
def findR (R : List Rs) (s : ByteArray) : Option Rs := R.find? fun r => eqS r.f0 s
def unitsOf (R : List Rs) (s : ByteArray) : Int × Int :=
  match findR R s with
  | none => (0, 21)
  | some r => if r.f2 then (0, 1) else (r.f1, 0)
def sumBy (g : Hd → Int) : List Hd → Int
  | [] => 0
  | h :: r => g h + sumBy g r
def ofName (s : ByteArray) (h : Hd) : Int := if eqS h.f1 s then h.f2 else 0
def freeOf (R : List Rs) (H : List Hd) (s : ByteArray) : Int × Int :=
  if (unitsOf R s).2 = 0 then ((unitsOf R s).1 - sumBy (ofName s) H, 0) else (0, (unitsOf R s).2)
def clash (n : Nd) (h : Hd) : Bool := eqS h.f1 n.f0 && (decide (h.f3 = 2) || decide (n.f2 = 2))
def busyOf (R : List Rs) (H : List Hd) (n : Nd) : Bool :=
  if n.f2 = 0 then decide ((freeOf R H n.f0).1 < n.f1) else H.any (clash n)
def okNeed (r : Rs) (n : Nd) : Bool :=
  if r.f2 then decide (n.f2 = 1) || decide (n.f2 = 2) else decide (n.f2 = 0) && (decide (1 ≤ n.f1) && decide (n.f1 ≤ 1000))
def right1 (R : List Rs) (pre : List Nd) (n : Nd) : Int :=
  match findR R n.f0 with
  | none => 21
  | some r => if okNeed r n then (if pre.any (fun m => eqS m.f0 n.f0) then 22 else 0) else 1
def rights (R : List Rs) : List Nd → List Nd → Int
  | _, [] => 0
  | pre, n :: r => if right1 R pre n = 0 then rights R (pre ++ [n]) r else right1 R pre n
def mayOf (R : List Rs) (H : List Hd) (o : Int) (L : List Nd) : Int :=
  if H.any (fun h => decide (h.f0 = o)) then 5 else if rights R [] L = 0 then (if L.any (busyOf R H) then 32 else 0) else rights R [] L
def ltH (a b : Hd) : Bool := decide (a.f0 < b.f0) || (decide (a.f0 = b.f0) && Op.bytesLess a.f1.toList b.f1.toList)
def putH (h : Hd) : List Hd → List Hd
  | [] => [h]
  | x :: r => if ltH h x then h :: x :: r else x :: putH h r
def heldAs (o : Int) (n : Nd) : Hd := ⟨o, n.f0, if n.f2 = 0 then n.f1 else 0, n.f2⟩
def takes (o : Int) (L : List Nd) (H : List Hd) : List Hd := L.foldl (fun H n => putH (heldAs o n) H) H
def takeOf (R : List Rs) (H : List Hd) (o : Int) (L : List Nd) : List Hd := if mayOf R H o L = 0 then takes o L H else H
def giveOf (H : List Hd) (o : Int) : List Hd := H.filter fun h => !decide (h.f0 = o)
/-! ### The order of what is held -/
theorem ltH_irrefl (a : Hd) : ltH a a = false := by unfold ltH; rw [bl_irrefl]; simp
theorem ltH_trans {a b c : Hd} (h : ltH a b = true) (k : ltH b c = true) : ltH a c = true := by
  unfold ltH at *
  simp only [Bool.or_eq_true, Bool.and_eq_true, decide_eq_true_eq] at h k ⊢
  rcases h with h | ⟨h, h'⟩
  · rcases k with k | ⟨k, _⟩
    · left; omega
    · left; omega
  · rcases k with k | ⟨k, k'⟩
    · left; omega
    · right; exact ⟨by omega, bl_trans _ _ _ h' k'⟩
/-- The key of what is held. -/
def kf (h : Hd) : Key := ⟨h.f0, h.f1⟩
theorem ltH_total {a b : Hd} (h : ltH a b = false) (k : ltH b a = false) : kf a = kf b := by
  unfold ltH at *
  simp only [Bool.or_eq_false_iff, Bool.and_eq_false_iff, decide_eq_false_iff_not] at h k
  have e : a.f0 = b.f0 := by omega
  have h2 := h.2.resolve_left (fun z => z e)
  have k2 := k.2.resolve_left (fun z => z e.symm)
  unfold kf
  rw [e, toList_inj (bl_total _ _ h2 k2)]
theorem ltH_kf {a b : Hd} (h : ltH a b = true) : kf a ≠ kf b := by
  intro e
  unfold kf at e
  injection e with e1 e2
  unfold ltH at h
  rw [e1, e2, bl_irrefl] at h
  simp at h
def SortH (H : List Hd) : Prop := H.Pairwise fun a b => ltH a b = true
theorem SortH.apart {H : List Hd} (h : SortH H) : H.Pairwise fun a b => kf a ≠ kf b := List.Pairwise.imp (fun z => ltH_kf z) h
theorem SortH.filter {H : List Hd} (h : SortH H) (p : Hd → Bool) : SortH (H.filter p) := List.Pairwise.filter p h
theorem putH_mem (h x : Hd) : ∀ H, x ∈ putH h H ↔ x = h ∨ x ∈ H
  | [] => by simp [putH]
  | y :: r => by
    unfold putH
    split
    · simp
    · rw [List.mem_cons, putH_mem h x r, List.mem_cons]
      exact ⟨fun z => by rcases z with z | z | z <;> simp [z], fun z => by rcases z with z | z | z <;> simp [z]⟩
theorem putH_length (h : Hd) : ∀ H, (putH h H).length = H.length + 1
  | [] => rfl
  | y :: r => by
    unfold putH
    split
    · rfl
    · simp [putH_length h r]
theorem putH_sorted (h : Hd) : ∀ {H}, SortH H → (∀ x ∈ H, kf x ≠ kf h) → SortH (putH h H)
  | [], _, _ => by simp [putH, SortH]
  | y :: r, hs, hn => by
    obtain ⟨h1, h2⟩ := List.pairwise_cons.mp hs
    unfold putH
    split
    · rename_i hlt
      exact List.pairwise_cons.mpr ⟨fun z hz => by
        rcases List.mem_cons.mp hz with e | e
        · rw [e]; exact hlt
        · exact ltH_trans hlt (h1 z e), hs⟩
    · rename_i hlt
      rw [Bool.not_eq_true] at hlt
      have hy : ltH y h = true := by
        cases e : ltH y h with
        | true => rfl
        | false => exact absurd (ltH_total e hlt) (hn y (.head _))
      exact List.pairwise_cons.mpr ⟨fun z hz => by
        rcases (putH_mem h z r).mp hz with e | e
        · rw [e]; exact hy
        · exact h1 z e, putH_sorted h h2 (fun x hx => hn x (.tail _ hx))⟩
/-! ### What maps say -/
def tv (r : Rs) : Value := if r.f2 then .iface 74 (.agg #[]) else .iface 72 (.int .i64 r.f1)
def fT (R : List Rs) (s : ByteArray) : Option Value := (findR R s).map tv
def nv (h : Hd) : Value := .agg #[.string h.f1, .int .i64 h.f2, .int .i64 h.f3]
def isK (k : Key) (h : Hd) : Bool := decide (h.f0 = k.1) && eqS h.f1 k.2
theorem isK_iff {k : Key} {h : Hd} : isK k h = true ↔ kf h = k := by
  unfold isK kf
  rw [Bool.and_eq_true, decide_eq_true_eq, eqS_iff]
  obtain ⟨a, b⟩ := k
  exact ⟨fun ⟨x, y⟩ => by rw [x, y], fun e => by injection e with e1 e2; exact ⟨e1, e2⟩⟩
def fH (H : List Hd) (k : Key) : Option Value := (H.find? (isK k)).map nv
theorem fH_mem {H : List Hd} {k : Key} {v : Value} (h : fH H k = some v) : ∃ x ∈ H, kf x = k ∧ v = nv x := by
  unfold fH at h
  cases hf : H.find? (isK k) with
  | none => rw [hf] at h; cases h
  | some x =>
    rw [hf] at h
    cases h
    exact ⟨x, List.mem_of_find?_eq_some hf, isK_iff.mp (List.find?_some hf), rfl⟩
theorem find_own : ∀ {H : List Hd}, (H.Pairwise fun a b => kf a ≠ kf b) → ∀ {x : Hd}, x ∈ H → H.find? (isK (kf x)) = some x
  | [], _, _, hx => by cases hx
  | y :: r, h, x, hx => by
    obtain ⟨h1, h2⟩ := List.pairwise_cons.mp h
    rcases List.mem_cons.mp hx with e | e
    · subst e
      rw [List.find?_cons_of_pos (isK_iff.mpr rfl)]
    · rw [List.find?_cons_of_neg (fun z => h1 x e (isK_iff.mp z)), find_own h2 e]
theorem fH_own {H : List Hd} (h : H.Pairwise fun a b => kf a ≠ kf b) {x : Hd} (hx : x ∈ H) : fH H (kf x) = some (nv x) := by
  unfold fH
  rw [find_own h hx]; rfl
theorem fH_none {H : List Hd} {k : Key} (h : ∀ x ∈ H, kf x ≠ k) : fH H k = none := by
  unfold fH
  rw [Option.map_eq_none_iff, List.find?_eq_none]
  exact fun x hx z => h x hx (isK_iff.mp z)
theorem fH_iff {H : List Hd} (ha : H.Pairwise fun a b => kf a ≠ kf b) {k : Key} {v : Value} : fH H k = some v ↔ ∃ x ∈ H, kf x = k ∧ v = nv x :=
  ⟨fH_mem, fun ⟨x, hx, e, hv⟩ => by rw [← e, hv]; exact fH_own ha hx⟩
/-- Two that hold the same. -/
theorem fH_congr {H M : List Hd} (ha : H.Pairwise fun a b => kf a ≠ kf b) (hb : M.Pairwise fun a b => kf a ≠ kf b) {k : Key} (h : ∀ x, kf x = k → (x ∈ H ↔ x ∈ M)) : fH H k = fH M k := by
  cases e : fH M k with
  | some v =>
    obtain ⟨x, hx, hk, hv⟩ := (fH_iff hb).mp e
    exact (fH_iff ha).mpr ⟨x, (h x hk).mpr hx, hk, hv⟩
  | none =>
    cases e2 : fH H k with
    | none => rfl
    | some v =>
      obtain ⟨x, hx, hk, hv⟩ := (fH_iff ha).mp e2
      rw [(fH_iff hb).mpr ⟨x, (h x hk).mp hx, hk, hv⟩] at e
      cases e
theorem fH_put {H : List Hd} (hs : SortH H) (h : Hd) (hn : ∀ x ∈ H, kf x ≠ kf h) : fH (putH h H) (kf h) = some (nv h) ∧ ∀ k, k ≠ kf h → fH (putH h H) k = fH H k := by
  have hp := (putH_sorted h hs hn).apart
  refine ⟨fH_own hp ((putH_mem h h H).mpr (.inl rfl)), fun k hk => fH_congr hp hs.apart (fun x hx => ?_)⟩
  rw [putH_mem]
  exact ⟨fun z => z.resolve_left (fun e => hk (by rw [← hx, e])), .inr⟩
theorem fH_filter {H : List Hd} (hs : SortH H) (p : Hd → Bool) (k : Key) (hp : ∀ x ∈ H, kf x = k → p x = true) : fH (H.filter p) k = fH H k :=
  fH_congr (hs.filter p).apart hs.apart (fun x hx => by rw [List.mem_filter]; exact ⟨fun z => z.1, fun z => ⟨z, hp x z hx⟩⟩)
/-- All is as it must be. -/
structure Good (R : List Rs) (H : List Hd) : Prop where
  rlen : R.length ≤ 100000
  rwf : ∀ r ∈ R, r.f0.size ≤ maxLen ∧ 0 ≤ r.f1 ∧ r.f1 ≤ 1000
  rap : R.Pairwise fun a b => a.f0 ≠ b.f0
  sorted : SortH H
  hwf : ∀ h ∈ H, wfK (kf h) ∧ 0 ≤ h.f2 ∧ h.f2 ≤ 1000 ∧ (h.f3 = 0 ∨ h.f3 = 1 ∨ h.f3 = 2)
  hlen : H.length ≤ 100000
/-! ### Sums of what was met -/
noncomputable def met (g : Hd → Int) (left : Lit → Bool) (h : Hd) : Int := cond (left (KK.kl (kf h))) 0 (g h)
theorem met_start {H : List Hd} (g : Hd → Int) {left : Lit → Bool} (hl : ∀ h ∈ H, left (KK.kl (kf h)) = true) : sumBy (met g left) H = 0 := by
  induction H with
  | nil => rfl
  | cons x r ih =>
    unfold sumBy
    rw [ih (fun h hh => hl h (.tail _ hh))]
    unfold met
    rw [hl x (.head _)]; rfl
theorem met_end (g : Hd → Int) {left : Lit → Bool} (hl : ∀ k, left k = false) (H : List Hd) : sumBy (met g left) H = sumBy g H := by
  induction H with
  | nil => rfl
  | cons x r ih =>
    unfold sumBy
    rw [ih]
    unfold met
    rw [hl]; rfl
theorem met_other (g : Hd → Int) {left : Lit → Bool} {x : Hd} (hx : wfK (kf x)) : ∀ {H : List Hd}, (∀ h ∈ H, wfK (kf h)) → (∀ h ∈ H, kf h ≠ kf x) → sumBy (met g (fun z => left z && !z.sameKey (KK.kl (kf x)))) H = sumBy (met g left) H
  | [], _, _ => rfl
  | y :: r, hw, hn => by
    unfold sumBy
    rw [met_other g hx (fun h hh => hw h (.tail _ hh)) (fun h hh => hn h (.tail _ hh))]
    congr 1
    unfold met
    dsimp only
    rw [KK.other (hw y (.head _)) hx (hn y (.head _))]
    simp
theorem met_step (g : Hd → Int) {left : Lit → Bool} : ∀ {H : List Hd}, (H.Pairwise fun a b => kf a ≠ kf b) → (∀ h ∈ H, wfK (kf h)) → ∀ {x : Hd}, x ∈ H → left (KK.kl (kf x)) = true → sumBy (met g (fun z => left z && !z.sameKey (KK.kl (kf x)))) H = sumBy (met g left) H + g x
  | [], _, _, _, hx, _ => by cases hx
  | y :: r, ha, hw, x, hx, hl => by
    obtain ⟨h1, h2⟩ := List.pairwise_cons.mp ha
    unfold sumBy
    rcases List.mem_cons.mp hx with e | e
    · subst e
      rw [met_other g (hw x (.head _)) (fun h hh => hw h (.tail _ hh)) (fun h hh => (h1 h hh).symm)]
      have e1 : met g (fun z => left z && !z.sameKey (KK.kl (kf x))) x = g x := by
        unfold met
        dsimp only
        rw [KK.self (hw x (.head _))]
        simp
      have e2 : met g left x = 0 := by unfold met; rw [hl]; rfl
      rw [e1, e2]
      omega
    · rw [met_step g h2 (fun h hh => hw h (.tail _ hh)) e hl]
      have e1 : met g (fun z => left z && !z.sameKey (KK.kl (kf x))) y = met g left y := by
        unfold met
        dsimp only
        rw [KK.other (hw y (.head _)) (hw x hx) (h1 x e)]
        simp
      rw [e1]
      omega
theorem sumBy_le {g : Hd → Int} : ∀ {H : List Hd}, (∀ h ∈ H, 0 ≤ g h ∧ g h ≤ 1000) → 0 ≤ sumBy g H ∧ sumBy g H ≤ 1000 * (H.length : Int)
  | [], _ => ⟨Int.le_refl _, Int.le_refl _⟩
  | y :: r, h => by
    have h1 := sumBy_le (g := g) (H := r) (fun x hx => h x (.tail _ hx))
    have h2 := h y (.head _)
    unfold sumBy
    rw [List.length_cons]
    omega
theorem met_le {g : Hd → Int} {H : List Hd} {left : Lit → Bool} (h : ∀ h ∈ H, 0 ≤ g h ∧ g h ≤ 1000) : 0 ≤ sumBy (met g left) H ∧ sumBy (met g left) H ≤ 1000 * (H.length : Int) :=
  sumBy_le (fun x hx => by unfold met; have := h x hx; cases left (KK.kl (kf x)) <;> simp <;> omega)
end Go.Proofs.Ytgdnljhndjlefaa.QNeedFits
