/- Rows of conditions in memory: as the sort has them, and as the walks have them. No conditions beyond those that each theorem names. -/
import Derived.Test.YtgepalpcaphbeaaQPoolPlaysPoolSort
namespace Go.Proofs.Ytgepalpcaphbeaa.QPoolPlays
open Go.RowKit Go.Proofs.Ytgepalpcaphbeaa.PPoolPlays Go.Proofs.YtgepalpcaphbeaaW.PrintWords Go.Proofs.YtgepalpcaphbeaaW.PrintLast Go.Proofs.YtgepalpcaphbeaaW.PrintMore Go.Proofs.Ytgepalpcaphbeaa.MMaps
set_option linter.unusedVariables false
set_option linter.unusedSimpArgs false
theorem flat_at (L : List Hp) (t : Nat) (h : t < L.length * 4) : (Go.Sort.flatK encC 4 L.toArray)[t]! = (encC L[t / 4]!)[t % 4]! := by
  rw [Go.Sort.get_flatK encC 4 L.toArray t (by simpa using h)]
  simp
theorem enc_at (L : List Hp) (j i : Nat) (p : Hp) (hj : L[j]? = some p) (hi : i < 4) : (encC L[(j * 4 + i) / 4]!)[(j * 4 + i) % 4]! = (encC p)[i]! := by
  have e1 : (j * 4 + i) / 4 = j := by omega
  have e2 : (j * 4 + i) % 4 = i := by omega
  rw [e1, e2]
  obtain ⟨hlt, rfl⟩ := List.getElem?_eq_some_iff.mp hj
  rw [getElem!_pos L j hlt]
theorem four_list {α : Type} {l : List α} {a b c d : α} (h : l.length = 4) (h0 : l[0]? = some a) (h1 : l[1]? = some b) (h2 : l[2]? = some c) (h3 : l[3]? = some d) : l = [a, b, c, d] := by
  match l, h with
  | [x, y, z, u], _ => simp at h0 h1 h2 h3; rw [h0, h1, h2, h3]
/-- A row whose cells hold conditions. -/
theorem row_of {w : World} {g cap base : Nat} {cur : Array Value} {L : List Hp} {ok : Nat → Prop} (h : w.heap[g]? = some (.cells cur 40 (0, 0))) (hsz : cur.size = cap * 4) (hL : L.length ≤ cap) (hcap : cap ≤ maxLen) (hc : ∀ t, t < L.length * 4 → cur[t]? = some ((encC L[t / 4]!)[t % 4]!)) (hb : base ≤ g) (ho : ok g) :
    k40.R 40 w base ok (.slice (some ⟨g, 0, none⟩) L.length cap) L := by
  have hlen : (cur.toList.take (L.length * 4)).length = L.length * 4 := by
    have e : cur.toList.length = cap * 4 := by rw [Array.length_toList, hsz]
    rw [List.length_take, e]; omega
  refine ⟨fun k hk => by simp [Value.ownBlock] at hk; rw [← hk]; exact ho, cur.toList.take (L.length * 4), ⟨hlen, .inr ⟨g, cap, cur, rfl, hb, h, hL, hcap, hsz, rfl⟩⟩, hlen, fun j p hj => ?_⟩
  have hlt := (List.getElem?_eq_some_iff.mp hj).1
  have at_ : ∀ i, i < 4 → (((cur.toList.take (L.length * 4)).drop (j * 4)).take 4)[i]? = some ((encC p)[i]!) := by
    intro i hi
    rw [List.getElem?_take, if_pos hi, List.getElem?_drop, List.getElem?_take, if_pos (by omega), Array.getElem?_toList, hc _ (by omega), enc_at L j i p hj hi]
  show k40.M w base _ p (((cur.toList.take (L.length * 4)).drop (j * 4)).take 4)
  have e : ((cur.toList.take (L.length * 4)).drop (j * 4)).take 4 = [.int .i64 p.f0, .string p.f1, .int .i64 p.f2, .int .i64 p.f3] := four_list (by rw [List.length_take, List.length_drop, hlen]; omega) (at_ 0 (by omega)) (at_ 1 (by omega)) (at_ 2 (by omega)) (at_ 3 (by omega))
  rw [e]
  exact k40_mkM _ _ _ p
theorem row_open {w : World} {base : Nat} {v : Value} {L : List Hp} {ok : Nat → Prop} (h : k40.R 40 w base ok v L) : (v = .slice none 0 0 ∧ L = []) ∨ ∃ g cap cur, v = .slice (some ⟨g, 0, none⟩) L.length cap ∧ base ≤ g ∧ ok g ∧ w.heap[g]? = some (.cells cur 40 (0, 0)) ∧ cur.size = cap * 4 ∧ L.length ≤ cap ∧ cap ≤ maxLen ∧ ∀ t, t < L.length * 4 → cur[t]? = some ((encC L[t / 4]!)[t % 4]!) := by
  obtain ⟨h0, inner, ⟨hl, hv⟩, hr1, hr2⟩ := h
  rcases hv with ⟨rfl, hn⟩ | ⟨g, cap, cur, rfl, hb, hg, h1, h2, h3, h4⟩
  · exact .inl ⟨rfl, List.length_eq_zero_iff.mp hn⟩
  · refine .inr ⟨g, cap, cur, rfl, hb, h0 g rfl, hg, h3, h1, h2, fun t ht => ?_⟩
    have hj : t / 4 < L.length := by omega
    have hm := hr2 (t / 4) L[t / 4] (List.getElem?_eq_getElem hj)
    have hm2 := k40_openM hm
    have e : ((inner.drop (t / 4 * k40.sz)).take k40.sz)[t % 4]? = inner[t]? := by
      show ((inner.drop (t / 4 * 4)).take 4)[t % 4]? = inner[t]?
      rw [List.getElem?_take, if_pos (by omega), List.getElem?_drop]
      congr 1
      omega
    have e2 : inner[t]? = cur[t]? := by
      rw [← h4]
      show (cur.toList.take (L.length * 4))[t]? = _
      rw [List.getElem?_take, if_pos ht, Array.getElem?_toList]
    rw [← e2, ← e, hm2, getElem!_pos L (t / 4) hj]
    have : t % 4 = 0 ∨ t % 4 = 1 ∨ t % 4 = 2 ∨ t % 4 = 3 := by omega
    rcases this with z | z | z | z <;> rw [z] <;> rfl
theorem holds_of {w : World} {g : Nat} {cur : Array Value} {L : List Hp} (h : w.heap[g]? = some (.cells cur 40 (0, 0))) (hc : ∀ t, t < L.length * 4 → cur[t]? = some ((encC L[t / 4]!)[t % 4]!)) : Go.Sort.HoldsK encC 4 w g 0 L.toArray := by
  intro t ht
  have ht' : t < L.length * 4 := by simpa using ht
  refine ⟨?_, blk_frozen h _⟩
  rw [blk_cell h, flat_at L t ht']
  simpa using hc t ht'
theorem sort_block {w : World} {g : Nat} {cur : Array Value} {L : List Hp} (n : Nat) (os : Array Obj) (h : w.heap[g]? = some (.cells cur 40 (0, 0))) (hL : L.length * 4 ≤ cur.size) :
    ∃ cur' : Array Value, (Go.Proofs.sortWorldK encC 4 w g 0 n L.toArray os).heap[g]? = some (.cells cur' 40 (0, 0)) ∧ cur'.size = cur.size ∧ ∀ t, t < L.length * 4 → cur'[t]? = some ((encC L[t / 4]!)[t % 4]!) := by
  refine ⟨Go.Sort.putCells id 0 (Go.Sort.flatK encC 4 L.toArray) cur, ?_, by simp [Go.Sort.putCells], fun t ht => ?_⟩
  · have hlt := blk_lt h
    unfold Go.Proofs.sortWorldK Go.Sort.putRowK Go.Sort.putRow Go.Sort.grow
    have e : (Go.Sort.mapBlock (Go.Sort.ahead w n) g (Go.Sort.putCells id 0 (Go.Sort.flatK encC 4 L.toArray))).heap[g]? = some (.cells (Go.Sort.putCells id 0 (Go.Sort.flatK encC 4 L.toArray) cur) 40 (0, 0)) := by
      show (w.heap.modify g (Go.Sort.onCells _))[g]? = _
      rw [Array.getElem?_modify, if_pos rfl, h]; rfl
    show ((Go.Sort.mapBlock (Go.Sort.ahead w n) g (Go.Sort.putCells id 0 (Go.Sort.flatK encC 4 L.toArray))).heap ++ os)[g]? = _
    rw [Array.getElem?_append_left (by show g < (w.heap.modify g _).size; simpa using hlt)]
    exact e
  · unfold Go.Sort.putCells
    rw [Array.getElem?_mapIdx]
    obtain ⟨x, hx⟩ : ∃ x, cur[t]? = some x := ⟨_, Array.getElem?_eq_getElem (by omega)⟩
    rw [hx]
    simp only [Option.map_some]
    rw [if_pos ⟨Nat.zero_le _, by rw [Go.Sort.size_flatK]; simpa using ht⟩, Nat.sub_zero, flat_at L t ht]
    rfl
theorem sort_grown {w : World} {g : Nat} (n : Nat) (os : Array Obj) (d : Array Hp) : w.grownBy (Go.Proofs.sortWorldK encC 4 w g 0 n d os) (some g) := by
  unfold Go.Proofs.sortWorldK Go.Sort.putRowK Go.Sort.putRow Go.Sort.grow
  refine ⟨rfl, rfl, rfl, ?_, fun k hk hne => ?_⟩
  · show w.heap.size ≤ ((w.heap.modify g _) ++ os).size
    simp
  · show ((w.heap.modify g _) ++ os)[k]? = _
    rw [Array.getElem?_append_left (by simpa using hk), Array.getElem?_modify, if_neg (by simpa using hne.symm)]
theorem toH_inj {x y : Hp} (h : toH x = toH y) : x = y := by
  obtain ⟨a, b, c, d⟩ := x
  obtain ⟨e, f, g, k⟩ := y
  unfold toH at h
  injection h with h1 h2 h3 h4
  subst h1; subst h2; subst h3; subst h4
  rfl
theorem to_to (x : Hd) : toH (toP x) = x := rfl
theorem to_toP (x : Hp) : toP (toH x) = x := rfl
theorem SortH.ext : ∀ {L M : List Hd}, SortH L → SortH M → (∀ c, c ∈ L ↔ c ∈ M) → L = M
  | [], [], _, _, _ => rfl
  | [], b :: r, _, _, h => by have := (h b).mpr (.head _); cases this
  | a :: r, [], _, _, h => by have := (h a).mp (.head _); cases this
  | a :: r, b :: t, hl, hm, h => by
    obtain ⟨l1, l2⟩ := List.pairwise_cons.mp hl
    obtain ⟨m1, m2⟩ := List.pairwise_cons.mp hm
    have e : a = b := by
      rcases List.mem_cons.mp ((h a).mp (.head _)) with e | e
      · exact e
      · rcases List.mem_cons.mp ((h b).mpr (.head _)) with q | q
        · exact q.symm
        · have h1 := m1 a e
          have h2 := l1 b q
          exact absurd (ltH_trans h2 h1) (by rw [ltH_irrefl]; simp)
    subst e
    have : r = t := SortH.ext l2 m2 (fun c => by
      constructor
      · intro hc
        rcases List.mem_cons.mp ((h c).mp (.tail _ hc)) with q | q
        · subst q; exact absurd (l1 c hc) (by rw [ltH_irrefl]; simp)
        · exact q
      · intro hc
        rcases List.mem_cons.mp ((h c).mpr (.tail _ hc)) with q | q
        · subst q; exact absurd (m1 c hc) (by rw [ltH_irrefl]; simp)
        · exact q)
    rw [this]
/-- What the sort leaves is the one rising list of what was there. -/
theorem sorted_is {d d' : Array Hp} {L : List Hd} (hp : Go.Sort.PermIn 0 d.size d d') (hs : Go.Sort.SortedIn (Go.Proofs.ltOf cmpC) 0 d.size d') (hn : (d.toList.map toH).Pairwise fun a b => kf a ≠ kf b) (hm : ∀ c, c ∈ d.toList.map toH ↔ c ∈ L) (hL : SortH L) : d' = (L.map toP).toArray := by
  obtain ⟨p1, p2, p3⟩ := hp
  have e1 : d.extract 0 d.size = d := by simp
  have e2 : d'.extract 0 d.size = d' := by rw [← p1]; simp
  rw [e1, e2] at p3
  have p4 : (d.toList.map toH).Perm (d'.toList.map toH) := (p3.symm).map toH
  have hn' : (d'.toList.map toH).Pairwise fun a b => kf a ≠ kf b := (p4.pairwise_iff (fun {a b} (z : kf a ≠ kf b) => z.symm)).mp hn
  have hS : SortH (d'.toList.map toH) := by
    refine List.pairwise_iff_getElem.mpr (fun i j hi hj hij => ?_)
    have hi' : i < d'.size := by simpa using hi
    have hj' : j < d'.size := by simpa using hj
    have h := hs i j (Nat.zero_le _) hij (by omega)
    rw [lt_cmp, getElem!_pos d' j hj', getElem!_pos d' i hi'] at h
    unfold ltP at h
    rw [List.getElem_map, List.getElem_map]
    cases hx : ltH (toH d'.toList[i]) (toH d'.toList[j]) with
    | true => rfl
    | false =>
      have e := ltH_total hx (by simpa using h)
      have := List.pairwise_iff_getElem.mp hn' i j hi hj hij
      rw [List.getElem_map, List.getElem_map] at this
      exact absurd e this
  have := SortH.ext hS hL (fun c => (p4.symm.mem_iff).trans (hm c))
  rw [← this, List.map_map]
  have : (toP ∘ toH) = id := by funext x; rfl
  rw [this]
  simp
end Go.Proofs.Ytgepalpcaphbeaa.QPoolPlays
