/- Needs in order of their names: the library's stable sort of at most 20. No conditions beyond those that each theorem names. -/
import Derived.Test.YtgdnljhndjlefaaQNeedFitsNeedPlain
import Derived.Shelf.SlSortCmp.InsertionK
import Derived.Shelf.Lay
import Derived.Ground.SlsfProg
import Derived.Sort.LotA
namespace Go.Proofs
open Go.Shelf Go.RowKit Go.Lib Go.Sort
shelf_lay_g SlLaysF0.n20 Slsf 20 at Try 73 as Ytgdnljhndjlefaa.QNeedFits.insC
end Go.Proofs
namespace Go.Proofs.Ytgdnljhndjlefaa.QNeedFits
open Go.Shelf
open Go.RowKit Go.Proofs.Ytgdnljhndjlefaa.PNeedFits Go.Proofs.YtgdnljhndjlefaaW.PrintWords Go.Proofs.YtgdnljhndjlefaaW.PrintLast Go.Proofs.YtgdnljhndjlefaaW.PrintMore Go.Proofs.Ytgdnljhndjlefaa.MMaps
set_option linter.unusedVariables false
set_option linter.unusedSimpArgs false
set_option maxRecDepth 100000
theorem isAggN : ∀ w, (isAgg 52).run Try.prog w = .ok true w := fun w => by rfl
theorem sizeOfN : ∀ w, (Go.sizeOf 52).run Try.prog w = .ok 3 w := fun w => by rfl
def encN (x : Nd) : List Value := [.string x.f0, .int .i64 x.f1, .int .i64 x.f2]
def ltN (x y : Nd) : Bool := Op.bytesLess x.f0.toList y.f0.toList
def cmpN (x y : Nd) : Int := cmpS x.f0 y.f0
theorem lt_cmpN (x y : Nd) : Go.Proofs.ltOf cmpN x y = ltN x y := by
  unfold Go.Proofs.ltOf cmpN ltN cmpS
  by_cases q : Op.bytesLess x.f0.toList y.f0.toList = true
  · simp [q]
  · have q' : Op.bytesLess x.f0.toList y.f0.toList = false := by simpa using q
    by_cases l : x.f0.toList = y.f0.toList
    · rw [l] at q'; simp [l, q']
    · simp [q', l]
theorem lt_cmpN' : Go.Proofs.ltOf cmpN = ltN := by funext x y; exact lt_cmpN x y
set_option maxHeartbeats 8000000 in
theorem Sorted1.calls (x y : Nd) (w : World) : Calls Try.prog 42 #[.agg #[.string x.f0, .int .i64 x.f1, .int .i64 x.f2], .agg #[.string y.f0, .int .i64 y.f1, .int .i64 y.f2]] w fun e w' => e = .returned (.int .i64 (cmpN x y)) ∧ ∃ q os', w' = Go.Sort.grow (w.drewN q) os' := by
  have e1 : ∀ W, Calls Try.prog 37 #[.string x.f0, .string y.f0] W fun e w' => e = .returned (.int .i64 (cmpN x y)) ∧ Drawn0 W w' := fun W => cmp_Compare_string.calls x.f0 y.f0 _ W rfl
  generalize cmpN x y = r at e1 ⊢
  have HG := Aside0.mk (fun (W : World) (os : Array Obj) => show ∀ W', W = Go.Sort.grow w os → Drawn0 W W' → Gr w W' from fun W' h hd => by subst h; exact Gr.drawn ⟨0, os, rfl⟩ hd)
  have ga : Gr w ((w.alloc (.cells #[.string x.f0, .int .i64 x.f1, .int .i64 x.f2] 52 (0, 0))).alloc (.cells #[.string y.f0, .int .i64 y.f1, .int .i64 y.f2] 52 (0, 0))) := ((Gr.refl w).alloc _).alloc _
  have gb : Gr w ((w.alloc (.cells #[.string y.f0, .int .i64 y.f1, .int .i64 y.f2] 52 (0, 0))).alloc (.cells #[.string x.f0, .int .i64 x.f1, .int .i64 x.f2] 52 (0, 0))) := ((Gr.refl w).alloc _).alloc _
  go_enter Try.func42, Try.ntmps42
  go_wp2_with (go_at_call 37; refine (e1 _).mono ?_; rintro e w1 ⟨rfl, d1⟩)
  go_ret
  exact ⟨rfl, by first | exact Gr.drawn ga d1 | exact Gr.drawn gb d1⟩
instance : Inhabited Nd := ⟨⟨⟨#[]⟩, 0, 0⟩⟩
/-! ### Rows of needs -/
theorem flat_atN (L : List Nd) (t : Nat) (h : t < L.length * 3) : (Go.Sort.flatK encN 3 L.toArray)[t]! = (encN L[t / 3]!)[t % 3]! := by
  rw [Go.Sort.get_flatK encN 3 L.toArray t (by simpa using h)]
  simp
theorem enc_atN (L : List Nd) (j i : Nat) (p : Nd) (hj : L[j]? = some p) (hi : i < 3) : (encN L[(j * 3 + i) / 3]!)[(j * 3 + i) % 3]! = (encN p)[i]! := by
  have e1 : (j * 3 + i) / 3 = j := by omega
  have e2 : (j * 3 + i) % 3 = i := by omega
  rw [e1, e2]
  obtain ⟨hlt, rfl⟩ := List.getElem?_eq_some_iff.mp hj
  rw [getElem!_pos L j hlt]
theorem three_list {α : Type} {l : List α} {a b c : α} (h : l.length = 3) (h0 : l[0]? = some a) (h1 : l[1]? = some b) (h2 : l[2]? = some c) : l = [a, b, c] := by
  match l, h with
  | [x, y, z], _ => simp at h0 h1 h2; rw [h0, h1, h2]
/-- Block g is a row of needs. -/
structure RowAt (w : World) (g cap : Nat) (L : List Nd) : Prop where
  own : ∃ cur, w.heap[g]? = some (.cells cur 52 (0, 0)) ∧ cur.size = cap * 3 ∧ ∀ t, t < L.length * 3 → cur[t]? = some ((encN L[t / 3]!)[t % 3]!)
  len : L.length ≤ cap
  cap : cap ≤ maxLen
theorem RowAt.R {w : World} {g cap base : Nat} {L : List Nd} {ok : Nat → Prop} (h : RowAt w g cap L) (hb : base ≤ g) (ho : ok g) : k52.R 52 w base ok (.slice (some ⟨g, 0, none⟩) L.length cap) L := by
  obtain ⟨⟨cur, h, hsz, hc⟩, hL, hcap⟩ := h
  have hlen : (cur.toList.take (L.length * 3)).length = L.length * 3 := by
    have e : cur.toList.length = cap * 3 := by rw [Array.length_toList, hsz]
    rw [List.length_take, e]; omega
  refine ⟨fun k hk => by simp [Value.ownBlock] at hk; rw [← hk]; exact ho, cur.toList.take (L.length * 3), ⟨hlen, .inr ⟨g, cap, cur, rfl, hb, h, hL, hcap, hsz, rfl⟩⟩, hlen, fun j p hj => ?_⟩
  have hlt := (List.getElem?_eq_some_iff.mp hj).1
  have at_ : ∀ i, i < 3 → (((cur.toList.take (L.length * 3)).drop (j * 3)).take 3)[i]? = some ((encN p)[i]!) := by
    intro i hi
    rw [List.getElem?_take, if_pos hi, List.getElem?_drop, List.getElem?_take, if_pos (by omega), Array.getElem?_toList, hc _ (by omega), enc_atN L j i p hj hi]
  show k52.M w base _ p (((cur.toList.take (L.length * 3)).drop (j * 3)).take 3)
  have e : ((cur.toList.take (L.length * 3)).drop (j * 3)).take 3 = [.string p.f0, .int .i64 p.f1, .int .i64 p.f2] := three_list (by rw [List.length_take, List.length_drop, hlen]; omega) (at_ 0 (by omega)) (at_ 1 (by omega)) (at_ 2 (by omega))
  rw [e]
  exact k52_mkM _ _ _ p
theorem RowAt.of {w : World} {base : Nat} {v : Value} {L : List Nd} {ok : Nat → Prop} (h : k52.R 52 w base ok v L) : (v = .slice none 0 0 ∧ L = []) ∨ ∃ g cap, v = .slice (some ⟨g, 0, none⟩) L.length cap ∧ base ≤ g ∧ ok g ∧ RowAt w g cap L := by
  obtain ⟨h0, inner, ⟨hl, hv⟩, hr1, hr2⟩ := h
  rcases hv with ⟨rfl, hn⟩ | ⟨g, cap, cur, rfl, hb, hg, h1, h2, h3, h4⟩
  · exact .inl ⟨rfl, List.length_eq_zero_iff.mp hn⟩
  · refine .inr ⟨g, cap, rfl, hb, h0 g rfl, ⟨cur, hg, h3, fun t ht => ?_⟩, h1, h2⟩
    have hj : t / 3 < L.length := by omega
    have hm := hr2 (t / 3) L[t / 3] (List.getElem?_eq_getElem hj)
    have hm2 := k52_openM hm
    have e : ((inner.drop (t / 3 * k52.sz)).take k52.sz)[t % 3]? = inner[t]? := by
      show ((inner.drop (t / 3 * 3)).take 3)[t % 3]? = inner[t]?
      rw [List.getElem?_take, if_pos (by omega), List.getElem?_drop]
      congr 1
      omega
    have e2 : inner[t]? = cur[t]? := by
      rw [← h4]
      show (cur.toList.take (L.length * 3))[t]? = _
      rw [List.getElem?_take, if_pos ht, Array.getElem?_toList]
    rw [← e2, ← e, hm2, getElem!_pos L (t / 3) hj]
    have : t % 3 = 0 ∨ t % 3 = 1 ∨ t % 3 = 2 := by omega
    rcases this with z | z | z <;> rw [z] <;> rfl
theorem RowAt.lt {w : World} {g cap : Nat} {L : List Nd} (h : RowAt w g cap L) : g < w.heap.size := by obtain ⟨cur, h1, _⟩ := h.own; exact blk_lt h1
theorem RowAt.kept {w w' : World} {g cap : Nat} {L : List Nd} {row : Option Nat} (h : RowAt w g cap L) (hg : w.grownBy w' row) (hn : some g ≠ row) : RowAt w' g cap L := by
  obtain ⟨cur, h1, h2⟩ := h.own
  exact ⟨⟨cur, (hg.block g (blk_lt h1) hn).trans h1, h2⟩, h.len, h.cap⟩
theorem RowAt.holds {w : World} {g cap : Nat} {L : List Nd} (h : RowAt w g cap L) : Go.Sort.HoldsK encN 3 w g 0 L.toArray := by
  obtain ⟨cur, h1, h2, hc⟩ := h.own
  intro t ht
  have ht' : t < L.length * 3 := by simpa using ht
  refine ⟨?_, blk_frozen h1 _⟩
  rw [blk_cell h1, flat_atN L t ht']
  simpa using hc t ht'
theorem RowAt.sorted {w : World} {g cap : Nat} {L M : List Nd} (h : RowAt w g cap L) (n : Nat) (os : Array Obj) (hM : M.length = L.length) : RowAt (Go.Proofs.sortWorldK encN 3 w g 0 n M.toArray os) g cap M ∧ w.grownBy (Go.Proofs.sortWorldK encN 3 w g 0 n M.toArray os) (some g) := by
  obtain ⟨cur, h1, hsz, hc⟩ := h.own
  have hlen := h.len
  refine ⟨⟨⟨Go.Sort.putCells id 0 (Go.Sort.flatK encN 3 M.toArray) cur, ?_, by simp [Go.Sort.putCells, hsz], fun t ht => ?_⟩, by omega, h.cap⟩, ?_⟩
  · have hlt := blk_lt h1
    unfold Go.Proofs.sortWorldK Go.Sort.putRowK Go.Sort.putRow Go.Sort.grow
    have e : (Go.Sort.mapBlock (Go.Sort.ahead w n) g (Go.Sort.putCells id 0 (Go.Sort.flatK encN 3 M.toArray))).heap[g]? = some (.cells (Go.Sort.putCells id 0 (Go.Sort.flatK encN 3 M.toArray) cur) 52 (0, 0)) := by
      show (w.heap.modify g (Go.Sort.onCells _))[g]? = _
      rw [Array.getElem?_modify, if_pos rfl, h1]; rfl
    show ((Go.Sort.mapBlock (Go.Sort.ahead w n) g (Go.Sort.putCells id 0 (Go.Sort.flatK encN 3 M.toArray))).heap ++ os)[g]? = _
    rw [Array.getElem?_append_left (by show g < (w.heap.modify g _).size; simpa using hlt)]
    exact e
  · unfold Go.Sort.putCells
    rw [Array.getElem?_mapIdx]
    obtain ⟨x, hx⟩ : ∃ x, cur[t]? = some x := ⟨_, Array.getElem?_eq_getElem (by omega)⟩
    rw [hx]
    simp only [Option.map_some]
    rw [if_pos ⟨Nat.zero_le _, by rw [Go.Sort.size_flatK]; simpa using ht⟩, Nat.sub_zero, flat_atN M t ht]
    rfl
  · unfold Go.Proofs.sortWorldK Go.Sort.putRowK Go.Sort.putRow Go.Sort.grow
    refine ⟨rfl, rfl, rfl, ?_, fun k hk hne => ?_⟩
    · show w.heap.size ≤ ((w.heap.modify g _) ++ os).size
      simp
    · show ((w.heap.modify g _) ++ os)[k]? = _
      rw [Array.getElem?_append_left (by simpa using hk), Array.getElem?_modify, if_neg (by simpa using hne.symm)]
/-- The insertion sort of the places from a up to b. -/
def insL (L : List Nd) (a b : Nat) : List Nd := (Go.Sort.insertionSort ltN L.toArray a b).toList
theorem swoN : Go.Sort.SWO ltN where
  irrefl x := bl_irrefl _
  trans x y z h1 h2 := bl_trans _ _ _ h1 h2
  ntrans x y z h1 h2 := by
    unfold ltN at *
    cases h : Op.bytesLess x.f0.toList z.f0.toList with
    | false => rfl
    | true =>
      cases h3 : Op.bytesLess y.f0.toList x.f0.toList with
      | true => rw [bl_trans _ _ _ h3 h] at h2; cases h2
      | false =>
        have e := bl_total _ _ h1 h3
        rw [e, h2] at h
        cases h
theorem ins_perm (L : List Nd) (a b : Nat) (hab : a ≤ b) (hb : b ≤ L.length) : Go.Sort.PermIn a b L.toArray (Go.Sort.insertionSort ltN L.toArray a b) ∧ Go.Sort.SortedIn ltN a b (Go.Sort.insertionSort ltN L.toArray a b) :=
  Go.Sort.insertionSort_holds swoN L.toArray a b hab (by simpa using hb)
theorem insL_len (L : List Nd) (a b : Nat) (hab : a ≤ b) (hb : b ≤ L.length) : (insL L a b).length = L.length := by
  have := (ins_perm L a b hab hb).1.1
  unfold insL
  simpa using this
theorem ins.calls (g cap a b : Nat) (L : List Nd) (w : World) (h : RowAt w g cap L) (hab : a ≤ b) (hb : b ≤ L.length) (hl : L.length ≤ 100000) :
    Calls Try.prog 73 #[.slice (some ⟨g, 0, none⟩) L.length cap, .int .i64 a, .int .i64 b, .func (.func 42) #[] #[]] w fun e w' => e = .returned (.tuple #[]) ∧ RowAt w' g cap (insL L a b) ∧ w.grownBy w' (some g) := by
  have := Go.Proofs.AnyQ.insertionSortCmpFunc insC 3 isAggN sizeOfN encN (fun _ => rfl) (fun x v hv => by simp [encN] at hv; rcases hv with rfl | rfl | rfl <;> rfl) cmpN 42 #[] g 0 cap a b L.toArray w (enters_of Try.func42 (by kernel_rfl) rfl) (fun _ _ _ _ x y => Sorted1.calls x y _) h.holds h.lt hab (by simpa using hb) (by simp; omega)
  rw [show L.toArray.size = L.length by simp, lt_cmpN'] at this
  refine this.mono ?_
  rintro e w' ⟨he, n, os, rfl⟩
  have e2 : Go.Sort.insertionSort ltN L.toArray a b = (insL L a b).toArray := by unfold insL; simp
  rw [e2]
  have := h.sorted (M := insL L a b) n os (insL_len L a b hab hb)
  exact ⟨he, this.1, this.2⟩
theorem ins_none (L : List Nd) (a : Nat) : insL L a a = L := by
  unfold insL Go.Sort.insertionSort
  rw [Go.Sort.insOuter, if_neg (by omega)]
end Go.Proofs.Ytgdnljhndjlefaa.QNeedFits
