/- Rows of conditions in memory: as the sort has them, and as the walks have them. No conditions beyond those that each theorem names. -/
import Derived.Test.YthneeibphelofaaQCondPlaysCondSort
namespace Go.Proofs.Ythneeibphelofaa.QCondPlays
open Go.RowKit Go.Proofs.Ythneeibphelofaa.PCondPlays Go.Proofs.YthneeibphelofaaW.PrintWords Go.Proofs.YthneeibphelofaaW.PrintLast Go.Proofs.YthneeibphelofaaW.PrintMore
set_option linter.unusedVariables false
set_option linter.unusedSimpArgs false
theorem flat_at (L : List C) (t : Nat) (h : t < L.length * 2) : (Go.Sort.flatK encC 2 L.toArray)[t]! = (encC L[t / 2]!)[t % 2]! := by
  rw [Go.Sort.get_flatK encC 2 L.toArray t (by simpa using h)]
  simp
theorem enc_at (L : List C) (j i : Nat) (p : C) (hj : L[j]? = some p) (hi : i < 2) : (encC L[(j * 2 + i) / 2]!)[(j * 2 + i) % 2]! = (encC p)[i]! := by
  have e1 : (j * 2 + i) / 2 = j := by omega
  have e2 : (j * 2 + i) % 2 = i := by omega
  rw [e1, e2]
  obtain ⟨hlt, rfl⟩ := List.getElem?_eq_some_iff.mp hj
  rw [getElem!_pos L j hlt]
theorem two_list {α : Type} {l : List α} {a b : α} (h : l.length = 2) (h0 : l[0]? = some a) (h1 : l[1]? = some b) : l = [a, b] := by
  match l, h with
  | [x, y], _ => simp at h0 h1; rw [h0, h1]
/-- A row whose cells hold conditions. -/
theorem row_of {w : World} {g cap base : Nat} {cur : Array Value} {L : List C} {ok : Nat → Prop} (h : w.heap[g]? = some (.cells cur 29 (0, 0))) (hsz : cur.size = cap * 2) (hL : L.length ≤ cap) (hcap : cap ≤ maxLen) (hc : ∀ t, t < L.length * 2 → cur[t]? = some ((encC L[t / 2]!)[t % 2]!)) (hb : base ≤ g) (ho : ok g) :
    k29.R 29 w base ok (.slice (some ⟨g, 0, none⟩) L.length cap) L := by
  have hlen : (cur.toList.take (L.length * 2)).length = L.length * 2 := by
    have e : cur.toList.length = cap * 2 := by rw [Array.length_toList, hsz]
    rw [List.length_take, e]; omega
  refine ⟨fun k hk => by simp [Value.ownBlock] at hk; rw [← hk]; exact ho, cur.toList.take (L.length * 2), ⟨hlen, .inr ⟨g, cap, cur, rfl, hb, h, hL, hcap, hsz, rfl⟩⟩, hlen, fun j p hj => ?_⟩
  have hlt := (List.getElem?_eq_some_iff.mp hj).1
  have at_ : ∀ i, i < 2 → (((cur.toList.take (L.length * 2)).drop (j * 2)).take 2)[i]? = some ((encC p)[i]!) := by
    intro i hi
    rw [List.getElem?_take, if_pos hi, List.getElem?_drop, List.getElem?_take, if_pos (by omega), Array.getElem?_toList, hc _ (by omega), enc_at L j i p hj hi]
  show k29.M w base _ p (((cur.toList.take (L.length * 2)).drop (j * 2)).take 2)
  have e : ((cur.toList.take (L.length * 2)).drop (j * 2)).take 2 = [.string p.f0, .int .i64 p.f1] := two_list (by rw [List.length_take, List.length_drop, hlen]; omega) (at_ 0 (by omega)) (at_ 1 (by omega))
  rw [e]
  exact k29_mkM _ _ _ p
theorem row_open {w : World} {base : Nat} {v : Value} {L : List C} {ok : Nat → Prop} (h : k29.R 29 w base ok v L) : (v = .slice none 0 0 ∧ L = []) ∨ ∃ g cap cur, v = .slice (some ⟨g, 0, none⟩) L.length cap ∧ base ≤ g ∧ ok g ∧ w.heap[g]? = some (.cells cur 29 (0, 0)) ∧ cur.size = cap * 2 ∧ L.length ≤ cap ∧ cap ≤ maxLen ∧ ∀ t, t < L.length * 2 → cur[t]? = some ((encC L[t / 2]!)[t % 2]!) := by
  obtain ⟨h0, inner, ⟨hl, hv⟩, hr1, hr2⟩ := h
  rcases hv with ⟨rfl, hn⟩ | ⟨g, cap, cur, rfl, hb, hg, h1, h2, h3, h4⟩
  · exact .inl ⟨rfl, List.length_eq_zero_iff.mp hn⟩
  · refine .inr ⟨g, cap, cur, rfl, hb, h0 g rfl, hg, h3, h1, h2, fun t ht => ?_⟩
    have hj : t / 2 < L.length := by omega
    have hm := hr2 (t / 2) L[t / 2] (List.getElem?_eq_getElem hj)
    have hm2 := k29_openM hm
    have e : ((inner.drop (t / 2 * k29.sz)).take k29.sz)[t % 2]? = inner[t]? := by
      show ((inner.drop (t / 2 * 2)).take 2)[t % 2]? = inner[t]?
      rw [List.getElem?_take, if_pos (by omega), List.getElem?_drop]
      congr 1
      omega
    have e2 : inner[t]? = cur[t]? := by
      rw [← h4]
      show (cur.toList.take (L.length * 2))[t]? = _
      rw [List.getElem?_take, if_pos ht, Array.getElem?_toList]
    rw [← e2, ← e, hm2, getElem!_pos L (t / 2) hj]
    have : t % 2 = 0 ∨ t % 2 = 1 := by omega
    rcases this with z | z <;> rw [z] <;> rfl
theorem holds_of {w : World} {g : Nat} {cur : Array Value} {L : List C} (h : w.heap[g]? = some (.cells cur 29 (0, 0))) (hc : ∀ t, t < L.length * 2 → cur[t]? = some ((encC L[t / 2]!)[t % 2]!)) : Go.Sort.HoldsK encC 2 w g 0 L.toArray := by
  intro t ht
  have ht' : t < L.length * 2 := by simpa using ht
  refine ⟨?_, blk_frozen h _⟩
  rw [blk_cell h, flat_at L t ht']
  simpa using hc t ht'
theorem sort_block {w : World} {g : Nat} {cur : Array Value} {L : List C} (n : Nat) (os : Array Obj) (h : w.heap[g]? = some (.cells cur 29 (0, 0))) (hL : L.length * 2 ≤ cur.size) :
    ∃ cur' : Array Value, (Go.Proofs.sortWorldK encC 2 w g 0 n L.toArray os).heap[g]? = some (.cells cur' 29 (0, 0)) ∧ cur'.size = cur.size ∧ ∀ t, t < L.length * 2 → cur'[t]? = some ((encC L[t / 2]!)[t % 2]!) := by
  refine ⟨Go.Sort.putCells id 0 (Go.Sort.flatK encC 2 L.toArray) cur, ?_, by simp [Go.Sort.putCells], fun t ht => ?_⟩
  · have hlt := blk_lt h
    unfold Go.Proofs.sortWorldK Go.Sort.putRowK Go.Sort.putRow Go.Sort.grow
    have e : (Go.Sort.mapBlock (Go.Sort.ahead w n) g (Go.Sort.putCells id 0 (Go.Sort.flatK encC 2 L.toArray))).heap[g]? = some (.cells (Go.Sort.putCells id 0 (Go.Sort.flatK encC 2 L.toArray) cur) 29 (0, 0)) := by
      show (w.heap.modify g (Go.Sort.onCells _))[g]? = _
      rw [Array.getElem?_modify, if_pos rfl, h]; rfl
    show ((Go.Sort.mapBlock (Go.Sort.ahead w n) g (Go.Sort.putCells id 0 (Go.Sort.flatK encC 2 L.toArray))).heap ++ os)[g]? = _
    rw [Array.getElem?_append_left (by show g < (w.heap.modify g _).size; simpa using hlt)]
    exact e
  · unfold Go.Sort.putCells
    rw [Array.getElem?_mapIdx]
    obtain ⟨x, hx⟩ : ∃ x, cur[t]? = some x := ⟨_, Array.getElem?_eq_getElem (by omega)⟩
    rw [hx]
    simp only [Option.map_some]
    rw [if_pos ⟨Nat.zero_le _, by rw [Go.Sort.size_flatK]; simpa using ht⟩, Nat.sub_zero, flat_at L t ht]
    rfl
theorem sort_grown {w : World} {g : Nat} (n : Nat) (os : Array Obj) (d : Array C) : w.grownBy (Go.Proofs.sortWorldK encC 2 w g 0 n d os) (some g) := by
  unfold Go.Proofs.sortWorldK Go.Sort.putRowK Go.Sort.putRow Go.Sort.grow
  refine ⟨rfl, rfl, rfl, ?_, fun k hk hne => ?_⟩
  · show w.heap.size ≤ ((w.heap.modify g _) ++ os).size
    simp
  · show ((w.heap.modify g _) ++ os)[k]? = _
    rw [Array.getElem?_append_left (by simpa using hk), Array.getElem?_modify, if_neg (by simpa using hne.symm)]
/-- What the sort leaves is the one rising list of what was there. -/
theorem sorted_is {d d' : Array C} {L : List C} (hp : Go.Sort.PermIn 0 d.size d d') (hs : Go.Sort.SortedIn (Go.Proofs.ltOf cmpC) 0 d.size d') (hn : d.toList.Nodup) (hm : ∀ c, c ∈ d.toList ↔ c ∈ L) (hL : Sorted L) : d' = L.toArray := by
  obtain ⟨p1, p2, p3⟩ := hp
  have e1 : d.extract 0 d.size = d := by simp
  have e2 : d'.extract 0 d.size = d' := by rw [← p1]; simp
  rw [e1, e2] at p3
  have hn' : d'.toList.Nodup := p3.symm.nodup hn
  have hS : Sorted d'.toList := by
    refine List.pairwise_iff_getElem.mpr (fun i j hi hj hij => ?_)
    have hi' : i < d'.size := by simpa using hi
    have hj' : j < d'.size := by simpa using hj
    have h := hs i j (Nat.zero_le _) hij (by omega)
    rw [lt_cmp, getElem!_pos d' j hj', getElem!_pos d' i hi'] at h
    cases hx : ltC d'.toList[i] d'.toList[j] with
    | true => rfl
    | false =>
      have e := ltC_total hx (by simpa using h)
      exact absurd e (List.pairwise_iff_getElem.mp hn' i j hi hj hij)
  have := Sorted.ext hS hL (fun c => (p3.mem_iff).trans (hm c))
  rw [← this]
end Go.Proofs.Ythneeibphelofaa.QCondPlays
