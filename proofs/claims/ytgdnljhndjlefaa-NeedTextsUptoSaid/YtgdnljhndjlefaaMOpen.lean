/- Arguments with depth (structs, slices of structs, nested in themselves) read as values of the printed kinds, with their sizes; and they read as before in a later world. Each theorem names its own conditions. -/
import Derived.Test.YtgdnljhndjlefaaWWords
import Derived.SizedLaws
import Derived.ChangeArms
import Derived.Deep.Slices
import Derived.Carry
namespace Go.Proofs.YtgdnljhndjlefaaW.PrintWords
open Go.RowKit
set_option linter.unusedVariables false
/-- What is read at a type, with so much fuel, is of a kind, and sized; its places are there. -/
def Rd {α : Type} (P : Program) (w : World) (t : TypeId) (d : Kd α) (Ok : α → Prop) (n : Nat) : Prop :=
  ∀ (H : Type) (enc : TypeId × Value → H) (cs : List Value) (x : DataW H × List MemPlace), DataW.trod enc P w 0 (fun _ => true) true n t cs = some x → (∀ q ∈ DataW.weights P t x.1, q ≤ reachBytes) → (∃ a, d.K w a cs ∧ Ok a) ∧ ∀ p ∈ x.2, p.block < w.heap.size
section
variable {P : Program} {w : World} {t e : TypeId} {n : Nat}
theorem Rd.zero {α : Type} (d : Kd α) (Ok : α → Prop) : Rd P w t d Ok 0 := fun H enc cs x h => by simp [DataW.trod] at h
theorem Rd.imp {α : Type} {d d' : Kd α} {Ok Ok' : α → Prop} (h : Rd P w t d Ok n) (hd : ∀ a cs, d.K w a cs → Ok a → d'.K w a cs ∧ Ok' a) : Rd P w t d' Ok' n := fun H enc cs x hx hw => by
  obtain ⟨⟨a, h1, h2⟩, h3⟩ := h H enc cs x hx hw
  exact ⟨⟨a, hd a cs h1 h2⟩, h3⟩
theorem Rd.iso {α β : Type} {d : Kd α} {Ok : α → Prop} (h : Rd P w t d Ok n) (f : β → α) (g : α → β) (hf : ∀ a, f (g a) = a) : Rd P w t (Kd.iso d f) (fun b => Ok (f b)) n := fun H enc cs x hx hw => by
  obtain ⟨⟨a, h1, h2⟩, h3⟩ := h H enc cs x hx hw
  exact ⟨⟨g a, by show d.K w (f (g a)) cs; rw [hf]; exact h1, by show Ok (f (g a)); rw [hf]; exact h2⟩, h3⟩
theorem Rd.int {k : IntKind} (ht : P.underlying t = some (.int k)) : Rd P w t (Kd.int k) (fun a => (Lit.int k a).wf = true) n := fun H enc cs x hx hw => by
  cases n with
  | zero => simp [DataW.trod] at hx
  | succ n =>
    unfold DataW.trod at hx
    rw [ht] at hx
    split at hx <;> simp_all
    obtain ⟨⟨rfl, hw2⟩, rfl⟩ := hx
    exact ⟨⟨_, rfl, hw2⟩, fun p hp => by cases hp⟩
theorem Rd.bool (ht : P.underlying t = some .bool) : Rd P w t Kd.bool (fun _ => True) n := fun H enc cs x hx hw => by
  cases n with
  | zero => simp [DataW.trod] at hx
  | succ n =>
    unfold DataW.trod at hx
    rw [ht] at hx
    split at hx <;> try (simp_all; done)
    obtain rfl := Option.some.inj hx
    exact ⟨⟨_, rfl, trivial⟩, fun p hp => by cases hp⟩
theorem Rd.string (ht : P.underlying t = some .string) : Rd P w t Kd.string (fun s => s.size ≤ reachBytes) n := fun H enc cs x hx hw => by
  cases n with
  | zero => simp [DataW.trod] at hx
  | succ n =>
    unfold DataW.trod at hx
    rw [ht] at hx
    split at hx <;> simp_all
    obtain ⟨hs, rfl⟩ := hx
    refine ⟨⟨_, rfl, ?_⟩, fun p hp => by cases hp⟩
    simpa [DataW.weights] using hw
theorem row_lt {a : Addr} {cs : List Value} {m : Nat} (h : w.cells? 0 a m = some cs) (hm : 0 < m) : a.block < w.heap.size := by
  obtain ⟨_, hl, hc⟩ := World.cells?_some h
  have := hc 0 hm
  have h2 : cs[0]? = some (cs[0]'(by omega)) := List.getElem?_eq_getElem (by omega)
  rw [h2] at this
  exact World.block_lt_of_cell? w (a.add 0) this
theorem Rd.slice {α : Type} {d : Kd α} {Ok : α → Prop} (ht : P.underlying t = some (.slice e)) (hc : P.cellsOf e = d.sz) (h0 : 0 < d.sz) (he : Rd P w e d Ok n) : Rd P w t (Kd.slice e d) (fun l => l.length * P.bytesOf e ≤ reachBytes ∧ ∀ a ∈ l, Ok a) (n + 1) := fun H enc cs x hx hw => by
  rcases DataW.trod_slice ht hx with ⟨rfl, rfl⟩ | ⟨a, len, cap, elems, rest, n', hn, rfl, rfl, _, hlc, hcm, hel, hget, hsp, _⟩
  · exact ⟨⟨[], ⟨none, 0, rfl, Nat.le_refl _, Kd.C_nil d w⟩, by simp [reachBytes], fun a ha => by cases ha⟩, fun p hp => by cases hp⟩
  · obtain rfl : n = n' := by omega
    obtain ⟨hrl, hrest⟩ := hsp rfl
    have hw1 : ∀ y ∈ elems, ∀ q ∈ DataW.weights P e y.1, q ≤ reachBytes := by
      intro y hy q hq
      refine hw q ?_
      simp only [DataW.weights, ht, List.mem_cons, List.mem_append]
      refine .inr (.inl ?_)
      have : ∀ l : List (DataW _ × List MemPlace), y ∈ l → q ∈ DataW.weightsAll P e (l.map (·.1)) := by
        intro l
        induction l with
        | nil => intro h; cases h
        | cons z l ih =>
          intro h
          simp only [List.map_cons, DataW.weightsAll, List.mem_append]
          rcases List.mem_cons.mp h with rfl | h
          · exact .inl hq
          · exact .inr (ih h)
      exact this elems hy
    have hw2 : ∀ y ∈ rest, ∀ q ∈ DataW.weights P e y.1, q ≤ reachBytes := by
      intro y hy q hq
      refine hw q ?_
      simp only [DataW.weights, ht, List.mem_cons, List.mem_append]
      refine .inr (.inr ?_)
      have : ∀ l : List (DataW _ × List MemPlace), y ∈ l → q ∈ DataW.weightsAll P e (l.map (·.1)) := by
        intro l
        induction l with
        | nil => intro h; cases h
        | cons z l ih =>
          intro h
          simp only [List.map_cons, DataW.weightsAll, List.mem_append]
          rcases List.mem_cons.mp h with rfl | h
          · exact .inl hq
          · exact .inr (ih h)
      exact this rest hy
    have hone : ∀ i, i < len → ∃ y cs' b, elems[i]? = some y ∧ w.cells? 0 (a.add (i * P.cellsOf e)) (P.cellsOf e) = some cs' ∧ d.K w b cs' ∧ Ok b ∧ ∀ p ∈ y.2, p.block < w.heap.size := by
      intro i hi
      have h1 := hget i hi
      have h2 : elems[i]? = some (elems[i]'(by omega)) := List.getElem?_eq_getElem (by omega)
      rw [h2] at h1
      obtain ⟨cs', h3, h4⟩ := Option.bind_eq_some_iff.mp h1
      obtain ⟨⟨b, h5, h6⟩, h7⟩ := he H enc cs' _ h4 (hw1 _ (List.getElem_mem _))
      exact ⟨_, cs', b, h2, h3, h5, h6, h7⟩
    obtain ⟨xs, hxl, hxs⟩ : ∃ xs : List α, xs.length = len ∧ ∀ i b, xs[i]? = some b → ∃ cs', w.cells? 0 (a.add (i * P.cellsOf e)) (P.cellsOf e) = some cs' ∧ d.K w b cs' ∧ Ok b := by
      have : ∀ m, m ≤ len → ∃ xs : List α, xs.length = m ∧ ∀ i b, xs[i]? = some b → ∃ cs', w.cells? 0 (a.add (i * P.cellsOf e)) (P.cellsOf e) = some cs' ∧ d.K w b cs' ∧ Ok b := by
        intro m
        induction m with
        | zero => intro _; exact ⟨[], rfl, fun i b h => by simp at h⟩
        | succ m ih =>
          intro hm
          obtain ⟨xs, h1, h2⟩ := ih (by omega)
          obtain ⟨y, cs', b, _, h3, h4, h5, _⟩ := hone m (by omega)
          refine ⟨xs ++ [b], by simp [h1], fun i c hc => ?_⟩
          rcases Nat.lt_or_ge i xs.length with hi | hi
          · rw [List.getElem?_append_left hi] at hc
            exact h2 i c hc
          · rw [List.getElem?_append_right hi] at hc
            have hi0 : i - xs.length = 0 := by
              have := (List.getElem?_eq_some_iff.mp hc).1
              simp at this
              omega
            rw [hi0] at hc
            have : b = c := by simpa using hc
            subst this
            have : i = m := by omega
            subst this
            exact ⟨cs', h3, h4, h5⟩
      exact this len (Nat.le_refl _)
    refine ⟨⟨xs, ⟨some a, cap, by rw [hxl], by omega, ?_⟩, ?_, fun b hb => ?_⟩, fun p hp => ?_⟩
    · refine ⟨rfl, by unfold maxLen at hcm; omega, fun hn => ⟨a, rfl, fun j b hj => ?_⟩⟩
      obtain ⟨cs', h1, h2, h3⟩ := hxs j b hj
      obtain ⟨_, hl, hcell⟩ := World.cells?_some h1
      refine ⟨cs', d.K_len h2, h2, fun i u hu => ?_⟩
      have hi := (List.getElem?_eq_some_iff.mp hu).1
      have := hcell i (by omega)
      rw [hu] at this
      rw [← this, hc, Addr.add_add]
    · have := hw ((elems.length + rest.length) * P.bytesOf e) (by simp [DataW.weights, ht])
      refine Nat.le_trans ?_ this
      exact Nat.mul_le_mul_right _ (by omega)
    · obtain ⟨i, hi, rfl⟩ := List.getElem_of_mem hb
      exact (hxs i _ (List.getElem?_eq_getElem hi)).elim fun _ h => h.2.2
    · have hblk : ∀ i, i < len → a.block < w.heap.size := fun i hi => by
        obtain ⟨y, cs', b, _, h3, _⟩ := hone i hi
        have hr := row_lt h3 (by omega)
        rwa [add_block] at hr
      have hblk2 : ∀ j, j < cap - len → a.block < w.heap.size := fun j hj => by
        have h1 := hrest j hj
        have h2 : rest[j]? = some (rest[j]'(by omega)) := List.getElem?_eq_getElem (by omega)
        rw [h2] at h1
        obtain ⟨cs', h3, h4⟩ := Option.bind_eq_some_iff.mp h1
        have hr := row_lt h3 (by omega)
        rwa [add_block] at hr
      rcases List.mem_append.mp hp with hp | hp
      · simp only [MemPlace.row, List.mem_map, List.mem_range] at hp
        obtain ⟨i, hi, rfl⟩ := hp
        show a.block < w.heap.size
        have : 0 < elems.length + rest.length := by
          rcases Nat.eq_zero_or_pos (elems.length + rest.length) with h | h
          · rw [h] at hi; simp at hi
          · exact h
        by_cases hz : 0 < len
        · exact hblk 0 hz
        · exact hblk2 0 (by omega)
      · obtain ⟨y, hy, hpy⟩ := List.mem_flatMap.mp hp
        rcases List.mem_append.mp hy with hy | hy
        · obtain ⟨i, hi, rfl⟩ := List.getElem_of_mem hy
          obtain ⟨y', cs', b, h1, _, _, _, h2⟩ := hone i (by omega)
          rw [List.getElem?_eq_getElem hi] at h1
          cases h1
          exact h2 p hpy
        · obtain ⟨j, hj, rfl⟩ := List.getElem_of_mem hy
          have h1 := hrest j (by omega)
          rw [List.getElem?_eq_getElem hj] at h1
          obtain ⟨cs', h3, h4⟩ := Option.bind_eq_some_iff.mp h1
          exact (he H enc cs' _ h4 (hw2 _ (List.getElem_mem _))).2 p hpy
/-- A struct's fields, from an offset on. -/
def RdF {α : Type} (P : Program) (w : World) (fl : List Field) (off : Nat) (d : Kd α) (Ok : α → Prop) (n : Nat) : Prop :=
  ∀ (H : Type) (enc : TypeId × Value → H) (cs : List Value) (ys : List (DataW H × List MemPlace)), (∀ (i : Nat) (f : Field), fl[i]? = some f → DataW.trod enc P w 0 (fun _ => true) true n f.type ((cs.drop f.offset).take (P.cellsOf f.type)) = ys[i]?) → ys.length = fl.length → cs.length = off + d.sz →
    (∀ q ∈ DataW.weightsEach P (fl.map (·.type)) (ys.map (·.1)), q ≤ reachBytes) → (∃ a, d.K w a (cs.drop off) ∧ Ok a) ∧ ∀ y ∈ ys, ∀ p ∈ y.2, p.block < w.heap.size
theorem RdF.one {α : Type} {f : Field} {off : Nat} {d : Kd α} {Ok : α → Prop} (ho : f.offset = off) (hc : P.cellsOf f.type = d.sz) (h : Rd P w f.type d Ok n) : RdF P w [f] off d Ok n := fun H enc cs ys hy hl hcs hw => by
  match ys, hl with
  | [y], _ =>
    have h1 := hy 0 f rfl
    rw [ho, hc, List.take_of_length_le (by rw [List.length_drop]; omega)] at h1
    obtain ⟨h2, h3⟩ := h H enc _ y h1 (fun q hq => hw q (by simp [DataW.weightsEach, hq]))
    exact ⟨h2, fun y' hy' p hp => by
      obtain rfl := List.mem_singleton.mp hy'
      exact h3 p hp⟩
theorem RdF.cons {α β : Type} {f : Field} {r : List Field} {off : Nat} {d : Kd α} {d2 : Kd β} {Ok : α → Prop} {Ok2 : β → Prop} (ho : f.offset = off) (hc : P.cellsOf f.type = d.sz) (h : Rd P w f.type d Ok n) (hr : RdF P w r (off + d.sz) d2 Ok2 n) : RdF P w (f :: r) off (Kd.pair d d2) (fun x => Ok x.1 ∧ Ok2 x.2) n := fun H enc cs ys hy hl hcs hw => by
  match ys, hl with
  | y :: ys, hl =>
    have h1 := hy 0 f rfl
    rw [ho, hc] at h1
    have hsz : (Kd.pair d d2).sz = d.sz + d2.sz := rfl
    obtain ⟨⟨a, h2, h2'⟩, h3⟩ := h H enc _ y (by simpa using h1) (fun q hq => hw q (by simp [DataW.weightsEach, hq]))
    obtain ⟨⟨b, h4, h4'⟩, h5⟩ := hr H enc cs ys (fun i g hg => by simpa using hy (i + 1) g (by simpa using hg)) (by simpa using hl) (by omega) (fun q hq => hw q (by
      simp only [List.map_cons, DataW.weightsEach, List.mem_append]
      exact .inr hq))
    refine ⟨⟨(a, b), ⟨_, _, ?_, h2, h4⟩, h2', h4'⟩, fun y' hy' p hp => ?_⟩
    · rw [← List.drop_drop, List.take_append_drop]
    · rcases List.mem_cons.mp hy' with rfl | hy'
      · exact h3 p hp
      · exact h5 y' hy' p hp
theorem Rd.struct {α : Type} {fs : Array Field} {d : Kd α} {Ok : α → Prop} (ht : P.underlying t = some (.struct fs)) (hc : P.cellsOf t = d.sz) (h : RdF P w fs.toList 0 d Ok n) : Rd P w t d Ok (n + 1) := fun H enc cs x hx hw => by
  obtain ⟨xs, n', hn, rfl, hl, hxl, hf⟩ := DataW.trod_struct ht hx
  obtain rfl : n = n' := by omega
  have hwx : ∀ q ∈ DataW.weightsEach P (fs.toList.map (·.type)) (xs.map (·.1)), q ≤ reachBytes := fun q hq => hw q (by simp only [DataW.weights, ht]; exact hq)
  obtain ⟨⟨a, h1, h1'⟩, h2⟩ := h H enc cs xs (fun i f hif => hf i f (by simpa using hif)) (by simpa using hxl) (by omega) hwx
  refine ⟨⟨a, by simpa using h1, h1'⟩, fun p hp => ?_⟩
  obtain ⟨y, hy, hp⟩ := List.mem_flatMap.mp hp
  exact h2 y hy p hp
end
end Go.Proofs.YtgdnljhndjlefaaW.PrintWords
