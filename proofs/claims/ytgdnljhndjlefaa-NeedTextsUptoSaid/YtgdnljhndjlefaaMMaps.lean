/- Maps of any kind of key and element, as functions from keys to elements. Each theorem names its own conditions. -/
import Derived.Maps.RangeWalk
import Derived.Maps.OwnSet
import Derived.Deep.RegionHeld3
import Derived.Below
import Derived.WalkKit
namespace Go.Proofs.Ytgdnljhndjlefaa.MMaps
open Go.Maps Go.RowKit
set_option linter.unusedVariables false
set_option linter.unusedSimpArgs false
/-- An element reads as itself. -/
def RV : Value → Option (DataW Value × List MemPlace) := fun v => some (.held v, [])
/-- A kind of key. -/
structure KeyKind (P : Program) (k : TypeId) (κ : Type) where
  law : Go.Maps.Keyed P k
  kv : κ → Value
  wf : κ → Prop
  lit : ∀ c, wf c → ∃ l, keyOf P k (kv c) = some l
  inv : ∀ v l, keyOf P k v = some l → ∃ c, wf c ∧ v = kv c
  inj : ∀ c d, kv c = kv d → c = d
variable {P : Program} {k : TypeId} {κ : Type}
/-- What a key reads as. -/
noncomputable def KeyKind.kl (K : KeyKind P k κ) (c : κ) : Lit := (keyOf P k (K.kv c)).getD (.bool false)
theorem KeyKind.key (K : KeyKind P k κ) {c : κ} (h : K.wf c) : keyOf P k (K.kv c) = some (K.kl c) := by
  obtain ⟨l, hl⟩ := K.lit c h
  unfold KeyKind.kl
  rw [hl]; rfl
theorem KeyKind.is (K : KeyKind P k κ) {c : κ} (h : K.wf c) : WideAt.IsKeyLit (K.kl c) := K.law.key (K.key h)
theorem KeyKind.klinj (K : KeyKind P k κ) {c d : κ} (hc : K.wf c) (hd : K.wf d) (h : K.kl c = K.kl d) : c = d := by
  have h1 := K.key hc
  rw [h] at h1
  exact K.inj _ _ (K.law.inj h1 (K.key hd))
theorem KeyKind.ne (K : KeyKind P k κ) {c d : κ} (hc : K.wf c) (hd : K.wf d) (h : c ≠ d) : K.kl c ≠ K.kl d := fun e => h (K.klinj hc hd e)
theorem KeyKind.self (K : KeyKind P k κ) {c : κ} (h : K.wf c) : (K.kl c).sameKey (K.kl c) = true := WideAt.sameKey_self (K.is h)
theorem KeyKind.other (K : KeyKind P k κ) {c d : κ} (hc : K.wf c) (hd : K.wf d) (h : c ≠ d) : (K.kl c).sameKey (K.kl d) = false := Go.Maps.sameKey_ne (K.ne hc hd h)
/-- What a map's datum says of each key. -/
structure Says (K : KeyKind P k κ) (D : DataW Value) (f : κ → Option Value) : Prop where
  tidy : Tidy D
  has_ : ∀ c, K.wf c → has D (K.kl c) = (f c).isSome
  at_ : ∀ c v, K.wf c → f c = some v → ∀ z, D.atKey (K.kl c) z = .held v
theorem Says.new (K : KeyKind P k κ) : Says K (.map []) (fun _ => none) := ⟨Go.Maps.tidy_empty, fun c _ => rfl, fun c v _ h => by cases h⟩
theorem Says.congr {K : KeyKind P k κ} {D : DataW Value} {f g : κ → Option Value} (h : Says K D f) (e : ∀ c, K.wf c → f c = g c) : Says K D g :=
  ⟨h.tidy, fun c hc => by rw [← e c hc]; exact h.has_ c hc, fun c v hc hv z => h.at_ c v hc ((e c hc).trans hv) z⟩
theorem Says.put {K : KeyKind P k κ} {D : DataW Value} {f g : κ → Option Value} (h : Says K D f) (c : κ) (hc : K.wf c) (v : Value) (h1 : g c = some v) (h2 : ∀ d, d ≠ c → g d = f d) : Says K (D.put (K.kl c) (.held v)) g where
  tidy := h.tidy.put (K.is hc) _
  has_ := fun d hd => by
    by_cases e : d = c
    · subst e
      rw [Go.Maps.has_put_same h.tidy.isMap (K.is hc), h1]; rfl
    · rw [Go.Maps.has_put_other (K.ne hd hc e), h.has_ d hd, h2 d e]
  at_ := fun d u hd hu z => by
    by_cases e : d = c
    · subst e
      rw [Go.Maps.atKey_put_same h.tidy.isMap (K.is hc)]
      rw [h1] at hu
      cases hu
      rfl
    · rw [Go.Maps.atKey_put_other (K.ne hd hc e)]
      rw [h2 d e] at hu
      exact h.at_ d u hd hu z
theorem Says.del {K : KeyKind P k κ} {D : DataW Value} {f g : κ → Option Value} (h : Says K D f) (c : κ) (hc : K.wf c) (h1 : g c = none) (h2 : ∀ d, d ≠ c → g d = f d) : Says K (D.del (K.kl c)) g where
  tidy := h.tidy.del _
  has_ := fun d hd => by
    by_cases e : d = c
    · subst e
      rw [Go.Maps.has_del_same, h1]; rfl
    · rw [Go.Maps.has_del_other (K.ne hd hc e), h.has_ d hd, h2 d e]
  at_ := fun d u hd hu z => by
    by_cases e : d = c
    · subst e
      rw [h1] at hu
      cases hu
    · rw [Go.Maps.atKey_del_other (K.ne hd hc e)]
      rw [h2 d e] at hu
      exact h.at_ d u hd hu z
/-- A map in memory, with at most n entries. -/
structure MapAt (K : KeyKind P k κ) (w : World) (b n : Nat) (f : κ → Option Value) : Prop where
  own : ∃ D : DataW Value, w.ownsMap P k RV b n D ∧ Says K D f ∧ size D = n
theorem MapAt.lt {K : KeyKind P k κ} {w : World} {b n : Nat} {f : κ → Option Value} (h : MapAt K w b n f) : b < w.heap.size := by obtain ⟨D, h, _⟩ := h.own; exact h.lt
theorem MapAt.kept {K : KeyKind P k κ} {w w' : World} {b n : Nat} {f : κ → Option Value} {row : Option Nat} (h : MapAt K w b n f) (hg : w.grownBy w' row) (hb : some b ≠ row) : MapAt K w' b n f := by
  obtain ⟨D, h1, h2⟩ := h.own
  exact ⟨D, h1.kept hg hb, h2⟩
theorem MapAt.below {K : KeyKind P k κ} {w w' : World} {b n : Nat} {f : κ → Option Value} (h : MapAt K w b n f) (hb : Below w.heap.size w w') : MapAt K w' b n f :=
  h.kept (row := none) ⟨hb.os, hb.tape, hb.output, hb.size, fun k hk _ => hb.block k hk⟩ (by simp)
theorem MapAt.congr {K : KeyKind P k κ} {w : World} {b n : Nat} {f g : κ → Option Value} (h : MapAt K w b n f) (e : ∀ c, K.wf c → f c = g c) : MapAt K w b n g := by
  obtain ⟨D, h1, h2, h3⟩ := h.own
  exact ⟨D, h1, h2.congr e, h3⟩
theorem MapAt.isMap {K : KeyKind P k κ} {w : World} {b n : Nat} {f : κ → Option Value} (h : MapAt K w b n f) : ∃ es clock, w.heap[b]? = some (.map es clock) := by
  obtain ⟨D, ⟨es, clock, hm, _⟩, _⟩ := h.own
  exact ⟨es, clock, hm⟩
theorem MapAt.made (K : KeyKind P k κ) (w : World) : MapAt K (w.alloc (.map #[] 0)) w.heap.size 0 (fun _ => none) := ⟨.map [], World.ownsMap_made w _ _ _, Says.new K, rfl⟩
/-- 'm[k]'. -/
theorem MapAt.look {K : KeyKind P k κ} {w : World} {b n : Nat} {f : κ → Option Value} (h : MapAt K w b n f) {t e : TypeId} (ht : P.underlying t = some (.map k e)) {z : Value} (hz : (zeroValue e).run P w = .ok z w) (c : κ) (hc : K.wf c) :
    (Instr.lookup t (.map (some b)) (K.kv c) false).run P w = .ok ((f c).getD z) w := by
  obtain ⟨D, h1, h2, _⟩ := h.own
  obtain ⟨v, ps, hrun, hv⟩ := h1.lookup K.law ht hz (zd := .held z) (zp := []) rfl (K.key hc)
  rw [hrun]
  have e : DataW.held v = D.atKey (K.kl c) (.held z) := congrArg Prod.fst (Option.some.inj hv)
  cases hf : f c with
  | some u =>
    rw [h2.at_ c u hc hf] at e
    cases e; rfl
  | none =>
    rw [Go.Maps.atKey_of_not_has (by rw [h2.has_ c hc, hf]; rfl)] at e
    cases e; rfl
/-- 'v, ok := m[k]'. -/
theorem MapAt.lookOk {K : KeyKind P k κ} {w : World} {b n : Nat} {f : κ → Option Value} (h : MapAt K w b n f) {t e : TypeId} (ht : P.underlying t = some (.map k e)) {z : Value} (hz : (zeroValue e).run P w = .ok z w) (c : κ) (hc : K.wf c) :
    (Instr.lookup t (.map (some b)) (K.kv c) true).run P w = .ok (.tuple #[(f c).getD z, .bool (f c).isSome]) w := by
  obtain ⟨D, h1, h2, _⟩ := h.own
  obtain ⟨v, ps, hrun, hv⟩ := h1.look_ok K.law ht hz (zd := .held z) (zp := []) rfl (K.key hc)
  rw [hrun, h2.has_ c hc]
  have e : DataW.held v = D.atKey (K.kl c) (.held z) := congrArg Prod.fst (Option.some.inj hv)
  cases hf : f c with
  | some u =>
    rw [h2.at_ c u hc hf] at e
    cases e; rfl
  | none =>
    rw [Go.Maps.atKey_of_not_has (by rw [h2.has_ c hc, hf]; rfl)] at e
    cases e; rfl
theorem own_tight {R : Value → Option (DataW Value × List MemPlace)} {w : World} {b n : Nat} {D : DataW Value} (h : w.ownsMap P k R b n D) : w.ownsMap P k R b (size D) D := by
  obtain ⟨es, clock, hm, F, hs, hD2⟩ := h
  refine ⟨es, clock, hm, F, ?_, hD2⟩
  rw [hD2, Go.Maps.size_eq, length_sorted, List.length_map, Array.length_toList]
  exact Nat.le_refl _
/-- 'm[k] = v'. -/
theorem MapAt.store {K : KeyKind P k κ} {w : World} {b n : Nat} {f : κ → Option Value} (h : MapAt K w b n f) {t e : TypeId} (ht : P.underlying t = some (.map k e)) (hn : n < maxLen) (c : κ) (hc : K.wf c) (v : Value) {g : κ → Option Value} (h1 : g c = some v) (h2 : ∀ d, d ≠ c → g d = f d) :
    ∃ w', (Instr.mapUpdate t (.map (some b)) (K.kv c) v).run P w = .ok () w' ∧ MapAt K w' b (if (f c).isSome then n else n + 1) g ∧ w.grownBy w' (some b) := by
  obtain ⟨D, h3, h4, h5⟩ := h.own
  obtain ⟨w', hrun, ho, ht2⟩ := h3.store K.law ht hn (d := .held v) (ps := []) (K.key hc) rfl
  refine ⟨w', hrun, ⟨_, ?_, h4.put c hc v h1 h2, ?_⟩, ht2.grown⟩
  · have := own_tight ho
    rw [Go.Maps.size_put h4.tidy, h4.has_ c hc, h5] at this
    exact this
  · rw [Go.Maps.size_put h4.tidy, h4.has_ c hc, h5]
/-- 'm[k] = v', in a walk. -/
theorem wpList_store (K : KeyKind P k κ) {w : World} {ops : Array Oper} {rest : List Oper} {o : Oper} {a : Act} {Q : Exit → Act → World → Prop} (hg : o.guard = none) (m x v : Operand) (t : TypeId) (hop : o.op = Op.mapUpdate t m x v) (e : TypeId) (ht : P.underlying t = some (.map k e))
    (b n : Nat) {f : κ → Option Value} (h : MapAt K w b n f) (hn : n < maxLen) (hm : a.eval m = .map (some b)) (c : κ) (hc : K.wf c) (u : Value) (hx : a.eval x = K.kv c) (hv : a.eval v = u) (g : κ → Option Value) (h1 : g c = some u) (h2 : ∀ d, d ≠ c → g d = f d)
    (hK : ∀ w', MapAt K w' b (if (f c).isSome then n else n + 1) g → w.grownBy w' (some b) → wpList P ops Q rest (a.put o.dst undef) w') : wpList P ops Q (o :: rest) a w := by
  obtain ⟨D, h3, h4, h5⟩ := h.own
  refine wpList_mapUpdate_own w hg m x v t hop k e K.law ht RV b n D hm h3 hn _ _ _ hx hv (K.key hc) (.held u) [] rfl ?_
  intro w' ho hgr
  refine hK w' ⟨_, ?_, h4.put c hc u h1 h2, ?_⟩ hgr
  · have := own_tight ho
    rw [Go.Maps.size_put h4.tidy, h4.has_ c hc, h5] at this
    exact this
  · rw [Go.Maps.size_put h4.tidy, h4.has_ c hc, h5]
/-- What the step of a range over such a map brings. -/
structure Came (K : KeyKind P k κ) (w w' : World) (b r n : Nat) (D : DataW Value) (f : κ → Option Value) (left : Lit → Bool) (cnt : Nat) (x : κ) (v : Value) (cnt' : Nat) : Prop where
  wf : K.wf x
  mem : f x = some v
  left_ : left (K.kl x) = true
  ranges : w'.ranges P k RV b r n D (fun z => left z && !z.sameKey (K.kl x)) cnt'
  lt : cnt' < cnt
  grown : w.grownBy w' (some r)
  size : w'.heap.size = w.heap.size
theorem next_key (K : KeyKind P k κ) {w : World} {ops : Array Oper} {rest : List Oper} {o : Oper} {a : Act} {Q : Exit → Act → World → Prop} (hg : o.guard = none) (it : Operand) (hop : o.op = Op.next it false) (b r n : Nat) (D : DataW Value) (f : κ → Option Value) (hD : Says K D f) (left : Lit → Bool) (cnt : Nat)
    (hit : a.eval it = .pointer (some ⟨r, 0, none⟩)) (h : w.ranges P k RV b r n D left cnt)
    (hDone : cnt = 0 ∧ (∀ k, left k = false) → wpList P ops Q rest (a.put o.dst (.tuple #[.bool false])) w)
    (hMore : ∀ (x : κ) (v : Value) (w' : World) (cnt' : Nat), Came K w w' b r n D f left cnt x v cnt' → (Instr.entry (.pointer (some ⟨r, 0, none⟩))).run P w' = .ok (.tuple #[K.kv x, v]) w' → wpList P ops Q rest (a.put o.dst (.tuple #[.bool true, K.kv x, v])) w') :
    wpList P ops Q (o :: rest) a w := by
  refine wpList_next_ranges _ hg it hop k K.law _ K.kv (fun v : Value => v) (fun key kl hk => by obtain ⟨x, _, hx⟩ := K.inv _ _ hk; exact ⟨x, hx⟩) (fun v y hv => ⟨v, rfl⟩) b r n D left cnt hit h (fun h1 h2 => hDone ⟨h1, h2⟩) ?_
  intro x c kl y w' cnt' hkey hl hv hat hr hlt hgr hsz hen
  obtain ⟨x2, hx2, e2⟩ := K.inv _ _ hkey
  have ex : x = x2 := K.inj _ _ e2
  subst ex
  have ek : kl = K.kl x := Option.some.inj (hkey.symm.trans (K.key hx2))
  subst ek
  have hh := Go.Maps.has_true_of_atKey hat
  rw [hD.has_ x hx2] at hh
  obtain ⟨u, hu⟩ := Option.isSome_iff_exists.mp hh
  have h1 := hat .nil
  rw [hD.at_ x u hx2 hu] at h1
  have hy : y = (.held c, []) := (Option.some.inj hv).symm
  rw [hy] at h1
  cases h1
  exact hMore x _ w' cnt' ⟨hx2, hu, hl, hr, hlt, hgr, hsz⟩ hen
end Go.Proofs.Ytgdnljhndjlefaa.MMaps
