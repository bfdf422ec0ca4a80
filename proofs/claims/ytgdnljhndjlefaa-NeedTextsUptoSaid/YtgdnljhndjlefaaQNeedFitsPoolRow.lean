/- The sort of what is held, by owner, then by name. No conditions beyond those that each theorem names. -/
import Derived.Test.YtgdnljhndjlefaaQNeedFitsPoolGive
import Derived.Shelf.SlSortCmp.WholeK
import Derived.Shelf.Lay
import Derived.Ground.SlsfProg
namespace Go.Proofs.Ytgdnljhndjlefaa.QNeedFits
open Go.Shelf
open Go.RowKit Go.Proofs.Ytgdnljhndjlefaa.PNeedFits Go.Proofs.YtgdnljhndjlefaaW.PrintWords Go.Proofs.YtgdnljhndjlefaaW.PrintLast Go.Proofs.YtgdnljhndjlefaaW.PrintMore Go.Proofs.Ytgdnljhndjlefaa.MMaps
set_option linter.unusedVariables false
set_option linter.unusedSimpArgs false
end Go.Proofs.Ytgdnljhndjlefaa.QNeedFits
namespace Go.Proofs
open Go.Shelf Go.RowKit Go.Lib Go.Sort
shelf_lay_g SlLaysF0.n6 Slsf 6 at Try 33 as Ytgdnljhndjlefaa.QNeedFits.sortC
end Go.Proofs
namespace Go.Proofs.Ytgdnljhndjlefaa.QNeedFits
open Go.Shelf
open Go.RowKit Go.Proofs.Ytgdnljhndjlefaa.PNeedFits Go.Proofs.YtgdnljhndjlefaaW.PrintWords Go.Proofs.YtgdnljhndjlefaaW.PrintLast Go.Proofs.YtgdnljhndjlefaaW.PrintMore Go.Proofs.Ytgdnljhndjlefaa.MMaps
set_option linter.unusedVariables false
set_option linter.unusedSimpArgs false
set_option maxRecDepth 100000 in
theorem isAggC : ∀ w, (isAgg 57).run Try.prog w = .ok true w := fun w => by rfl
set_option maxRecDepth 100000 in
theorem sizeOfC : ∀ w, (Go.sizeOf 57).run Try.prog w = .ok 4 w := fun w => by rfl
/-- What a pool's list holds, as the program has it. -/
abbrev Hp := S57
def toH (x : Hp) : Hd := ⟨x.f0, x.f1, x.f2, x.f3⟩
def toP (x : Hd) : Hp := ⟨x.f0, x.f1, x.f2, x.f3⟩
def ltP (x y : Hp) : Bool := ltH (toH x) (toH y)
def encC (x : Hp) : List Value := [.int .i64 x.f0, .string x.f1, .int .i64 x.f2, .int .i64 x.f3]
def cmpS (a b : ByteArray) : Int := if Op.bytesLess a.toList b.toList = true then -1 else if a.toList = b.toList then 0 else 1
def cmpI (a b : Int) : Int := if a < b then -1 else if a > b then 1 else 0
def cmpC (x y : Hp) : Int := if cmpI x.f0 y.f0 = 0 then cmpS x.f1 y.f1 else cmpI x.f0 y.f0
theorem lt_cmp (x y : Hp) : Go.Proofs.ltOf cmpC x y = ltP x y := by
  unfold Go.Proofs.ltOf cmpC ltP ltH cmpS cmpI toH
  by_cases h : x.f0 < y.f0
  · simp [h]
  · by_cases g : y.f0 < x.f0
    · have e : ¬ x.f0 = y.f0 := by omega
      simp [h, g, e]
    · have e : x.f0 = y.f0 := by omega
      by_cases q : Op.bytesLess x.f1.toList y.f1.toList = true
      · simp [e, q]
      · have q' : Op.bytesLess x.f1.toList y.f1.toList = false := by simpa using q
        by_cases l : x.f1.toList = y.f1.toList
        · rw [l] at q'; simp [e, l, q']
        · simp [e, q', l]
/-! ### The closure -/
/-- A world that has grown, and drawn; nothing else. -/
def Gr (V W : World) : Prop := ∃ q os, W = Go.Sort.grow (V.drewN q) os
theorem Gr.refl (V : World) : Gr V V := ⟨0, #[], by rw [Go.Sort.grow_empty]; rfl⟩
theorem Gr.drewN {V W : World} (h : Gr V W) (n : Nat) : Gr V (W.drewN n) := by
  obtain ⟨q, os, rfl⟩ := h
  exact ⟨q + n, os, by unfold Go.Sort.grow World.drewN; simp [Nat.add_assoc]⟩
theorem Gr.drew {V W : World} (h : Gr V W) : Gr V W.drew := h.drewN 1
theorem Gr.drawn {V W W' : World} (h : Gr V W) (hd : Drawn0 W W') : Gr V W' := by obtain ⟨n, rfl⟩ := hd; exact h.drewN n
theorem Gr.alloc {V W : World} (h : Gr V W) (o : Obj) : Gr V (W.alloc o) := by
  obtain ⟨q, os, rfl⟩ := h
  exact ⟨q, os ++ #[o], by rw [Go.Sort.alloc_eq_grow, Go.Sort.grow_grow]⟩
theorem Gr.trans {U V W : World} (h : Gr U V) (k : Gr V W) : Gr U W := by
  obtain ⟨q, os, rfl⟩ := h
  obtain ⟨n, os2, rfl⟩ := k
  exact ⟨q + n, os ++ os2, by unfold Go.Sort.grow World.drewN; simp [Nat.add_assoc, Array.append_assoc]⟩
theorem Gr.below {V W : World} (h : Gr V W) : Below V.heap.size V W := by
  obtain ⟨q, os, rfl⟩ := h
  refine ⟨rfl, rfl, rfl, by unfold Go.Sort.grow World.drewN; simp, fun k hk => ?_⟩
  unfold Go.Sort.grow World.drewN
  exact Array.getElem?_append_left hk
theorem C_of_block {α : Type} (d : Kd α) {w : World} {g : Nat} {t : TypeId} {cs : Array Value} {xs : List α} (h : w.heap[g]? = some (.cells cs t (0, 0))) (hm : xs.length ≤ 9223372036854775807) (hr : Reps (d.K w) d.sz xs cs.toList) : d.C w (some ⟨g, 0, none⟩) xs.length xs := by
  refine ⟨rfl, hm, fun hn => ⟨_, rfl, fun j p hj => ⟨_, d.K_len (hr.2 j p hj), hr.2 j p hj, fun i u hu => ?_⟩⟩⟩
  have e : (Addr.add ⟨g, 0, none⟩ (j * d.sz + i)) = ⟨g, j * d.sz + i, none⟩ := by simp [Addr.add]; intro a b; omega
  rw [e, blk_cell h]
  have hi : i < d.sz := by
    have h1 := d.K_len (hr.2 j p hj)
    have h2 := (List.getElem?_eq_some_iff.mp hu).1
    omega
  rw [List.getElem?_take, if_pos hi, List.getElem?_drop] at hu
  simpa using hu
theorem ints2 (w : World) (g : Nat) (t : TypeId) (a b : Int) (h : w.heap[g]? = some (.cells #[.int .i64 a, .int .i64 b] t (0, 0))) : Kd.C (Kd.int .i64) w (some ⟨g, 0, none⟩) [a, b].length [a, b] := C_of_block (Kd.int .i64) h (by simp) (Kd.reps_scalar (enc := Value.int .i64) [a, b])
theorem or_is (a b : Int) : cmp_Or_int.f 5 [a, b] = some (if a = 0 then b else a) := by
  unfold cmp_Or_int.f
  rw [cmp_Or_int.l0.eq_2, if_pos (by simp), if_pos (by omega), if_pos (by simp), show rd [a, b] 0 = a from rfl]
  by_cases h : a = 0
  · rw [if_pos h, if_pos h, show wrap64 (0 + 1) = 1 from wrap64_id (by omega) (by omega), cmp_Or_int.l0.eq_2, if_pos (by simp), if_pos (by omega), if_pos (by simp), show rd [a, b] 1 = b from rfl]
    by_cases h2 : b = 0
    · rw [if_pos h2, show wrap64 (1 + 1) = 2 from wrap64_id (by omega) (by omega), cmp_Or_int.l0.eq_2, if_neg (by simp), h2]
    · rw [if_neg h2]
  · rw [if_neg h, if_neg h]
theorem cmpI_is (a b : Int) : cmp_Compare_int64.f a b = some (cmpI a b) := by
  unfold cmp_Compare_int64.f cmp_isNaN_int64.f cmpI
  simp
  by_cases h : a < b
  · simp [h]
  · by_cases g : b < a <;> simp [h, g]
set_option maxHeartbeats 8000000 in
set_option maxRecDepth 100000 in
theorem List1.calls (x y : Hp) (w : World) : Calls Try.prog 34 #[.agg #[.int .i64 x.f0, .string x.f1, .int .i64 x.f2, .int .i64 x.f3], .agg #[.int .i64 y.f0, .string y.f1, .int .i64 y.f2, .int .i64 y.f3]] w fun e w' => e = .returned (.int .i64 (cmpC x y)) ∧ ∃ q os', w' = Go.Sort.grow (w.drewN q) os' := by
  have e1 : ∀ W, Calls Try.prog 37 #[.string x.f1, .string y.f1] W fun e w' => e = .returned (.int .i64 (cmpS x.f1 y.f1)) ∧ Drawn0 W w' := fun W => cmp_Compare_string.calls x.f1 y.f1 _ W rfl
  have e2 : ∀ W, Calls Try.prog 36 #[.int .i64 x.f0, .int .i64 y.f0] W fun e w' => e = .returned (.int .i64 (cmpI x.f0 y.f0)) ∧ Drawn0 W w' := fun W => cmp_Compare_int64.calls x.f0 y.f0 _ W (cmpI_is _ _)
  have e3 : ∀ W g t, W.heap[g]? = some (.cells #[.int .i64 (cmpI x.f0 y.f0), .int .i64 (cmpS x.f1 y.f1)] t (0, 0)) → Calls Try.prog 35 #[.slice (some ⟨g, 0, none⟩) 2 2] W fun e w' => e = .returned (.int .i64 (cmpC x y)) ∧ Drawn0 W w' := fun W g t h => cmp_Or_int.calls 5 (some ⟨g, 0, none⟩) 2 [cmpI x.f0 y.f0, cmpS x.f1 y.f1] _ W (ints2 W g t _ _ h) (by simp) (or_is _ _)
  generalize cmpC x y = r at e3 ⊢
  generalize cmpS x.f1 y.f1 = a at e1 e3
  generalize cmpI x.f0 y.f0 = b at e2 e3
  go_enter Try.func34, Try.ntmps34
  go_upto_region 1 with (fail)
  obtain ⟨W, hW⟩ : ∃ W, W = (w.alloc (.cells #[.int .i64 x.f0, .string x.f1, .int .i64 x.f2, .int .i64 x.f3] 57 (0, 0))).alloc (.cells #[.int .i64 y.f0, .string y.f1, .int .i64 y.f2, .int .i64 y.f3] 57 (0, 0)) := ⟨_, rfl⟩
  have HW := Aside0.mk (show Gr w W by rw [hW]; exact ((Gr.refl w).alloc _).alloc _)
  have k1 : W.heap[w.heap.size]? = some (.cells #[.int .i64 x.f0, .string x.f1, .int .i64 x.f2, .int .i64 x.f3] 57 (0, 0)) := by rw [hW]; exact blk_alloc (blk_new w _) _
  have k2 : W.heap[w.heap.size + 1]? = some (.cells #[.int .i64 y.f0, .string y.f1, .int .i64 y.f2, .int .i64 y.f3] 57 (0, 0)) := by
    rw [hW]
    have := blk_new (w.alloc (.cells #[.int .i64 x.f0, .string x.f1, .int .i64 x.f2, .int .i64 x.f3] 57 (0, 0))) (.cells #[.int .i64 y.f0, .string y.f1, .int .i64 y.f2, .int .i64 y.f3] 57 (0, 0))
    rwa [show (w.alloc (.cells #[.int .i64 x.f0, .string x.f1, .int .i64 x.f2, .int .i64 x.f3] 57 (0, 0))).heap.size = w.heap.size + 1 from by simp] at this
  rw [← hW]
  clear hW
  have HS : Aside0 (∀ W' : World, Gr W W' → W'.cell? ⟨w.heap.size, 0, none⟩ = some (.int .i64 x.f0) ∧ W'.cell? ⟨w.heap.size, 1, none⟩ = some (.string x.f1) ∧ W'.cell? ⟨w.heap.size + 1, 0, none⟩ = some (.int .i64 y.f0) ∧ W'.cell? ⟨w.heap.size + 1, 1, none⟩ = some (.string y.f1)) :=
    ⟨fun W' h => ⟨blk_cell (blk_below k1 h.below) 0, blk_cell (blk_below k1 h.below) 1, blk_cell (blk_below k2 h.below) 0, blk_cell (blk_below k2 h.below) 1⟩⟩
  have hv0 := Gr.refl W
  clear k1 k2
  go_region_held3 (fun W' => W'.cell? ⟨w.heap.size, 0, none⟩ = some (.int .i64 x.f0) ∧ W'.cell? ⟨w.heap.size, 1, none⟩ = some (.string x.f1) ∧ W'.cell? ⟨w.heap.size + 1, 0, none⟩ = some (.int .i64 y.f0) ∧ W'.cell? ⟨w.heap.size + 1, 1, none⟩ = some (.string y.f1))
    (exact HS.out _ (by repeat (first | assumption | apply Gr.drew | apply Gr.alloc)))
    (first | (go_at_call 37; refine (e1 _).mono ?_; rintro e w1 ⟨rfl, hd1⟩; have hb1 : Gr W w1 := Gr.drawn (by repeat (first | assumption | apply Gr.drew | apply Gr.alloc)) hd1; clear hd1) | (go_at_call 36; refine (e2 _).mono ?_; rintro e w2 ⟨rfl, hd2⟩; have hb2 : Gr W w2 := Gr.drawn (by repeat (first | assumption | apply Gr.drew | apply Gr.alloc)) hd2; clear hd2) | (go_at_call 35; refine (e3 _ _ 3 (by first | exact blk_new _ _ | exact blk_new _ _)).mono ?_; rintro e w3 ⟨rfl, hd3⟩; have hb3 : Gr W w3 := Gr.drawn (by repeat (first | assumption | apply Gr.drew | apply Gr.alloc)) hd3; clear hd3))
  go_wp2
  go_ret
  exact ⟨rfl, HW.out.trans hb3⟩
theorem swoC : Go.Sort.SWO (Go.Proofs.ltOf cmpC) where
  irrefl x := by rw [lt_cmp]; exact ltH_irrefl _
  trans x y z h1 h2 := by rw [lt_cmp] at *; exact ltH_trans h1 h2
  ntrans x y z h1 h2 := by
    rw [lt_cmp] at *
    unfold ltP at *
    cases h : ltH (toH x) (toH z) with
    | false => rfl
    | true =>
      cases h3 : ltH (toH y) (toH x) with
      | true => rw [ltH_trans h3 h] at h2; cases h2
      | false =>
        have e := ltH_total h1 h3
        unfold kf at e
        injection e with e1 e2
        unfold ltH at h h2
        rw [e1, e2] at h
        rw [h] at h2
        cases h2
instance : Inhabited Hp := ⟨⟨0, ⟨#[]⟩, 0, 0⟩⟩
theorem sort_calls (blk off cap : Nat) (d : Array Hp) (w : World) (hH : Go.Sort.HoldsK encC 4 w blk off d) (hblk : blk < w.heap.size) (hsz : d.size < 4611686018427387904) :
    Calls Try.prog 33 #[.slice (some ⟨blk, off, none⟩) d.size cap, .func (.func 34) #[] #[]] w fun e w' => e = .returned (.tuple #[]) ∧ ∃ d' n os, Go.Sort.PermIn 0 d.size d d' ∧ Go.Sort.SortedIn (Go.Proofs.ltOf cmpC) 0 d.size d' ∧ w' = Go.Proofs.sortWorldK encC 4 w blk off n d' os :=
  Go.Proofs.AnyQ.slices_SortFunc sortC 4 isAggC sizeOfC encC (fun _ => rfl) (fun x v hv => by simp [encC] at hv; rcases hv with rfl | rfl | rfl | rfl <;> rfl) cmpC swoC 34 #[] blk off cap d w (enters_of Try.func34 (by kernel_rfl) rfl) (fun _ _ _ _ x y => List1.calls x y _) hH hblk hsz
end Go.Proofs.Ytgdnljhndjlefaa.QNeedFits

/- Rows of conditions in memory: as the sort has them, and as the walks have them. No conditions beyond those that each theorem names. -/
namespace Go.Proofs.Ytgdnljhndjlefaa.QNeedFits
open Go.RowKit Go.Proofs.Ytgdnljhndjlefaa.PNeedFits Go.Proofs.YtgdnljhndjlefaaW.PrintWords Go.Proofs.YtgdnljhndjlefaaW.PrintLast Go.Proofs.YtgdnljhndjlefaaW.PrintMore Go.Proofs.Ytgdnljhndjlefaa.MMaps
set_option linter.unusedVariables false
set_option linter.unusedSimpArgs false
theorem flat_at (L : List Hp) (t : Nat) (h : t < L.length * 4) : (Go.Sort.flatK encC 4 L.toArray)[t]! = (encC L[t / 4]!)[t % 4]! := by
  rw [Go.Sort.get_flatK encC 4 L.toArray t (by simpa using h)]
  simp
theorem enc_at (L : List Hp) (j i : Nat) (p : Hp) (hj : L[j]? = some p) (hi : i < 4) : (encC L[(j * 4 + i) / 4]!)[(j * 4 + i) % 4]! = (encC p)[i]! := by
  have e1 : (j * 4 + i) / 4 = j := by omega
  have e2 : (j * 4 + i) % 4 = i := by omega
  rw [e1, e2]
  obtain ⟨hlt, rfl⟩ := List.getElem?_eq_some_iff.mp hj
  rw [getElem!_pos L j hlt]
theorem four_list {α : Type} {l : List α} {a b c d : α} (h : l.length = 4) (h0 : l[0]? = some a) (h1 : l[1]? = some b) (h2 : l[2]? = some c) (h3 : l[3]? = some d) : l = [a, b, c, d] := by
  match l, h with
  | [x, y, z, u], _ => simp at h0 h1 h2 h3; rw [h0, h1, h2, h3]
/-- A row whose cells hold conditions. -/
theorem row_of {w : World} {g cap base : Nat} {cur : Array Value} {L : List Hp} {ok : Nat → Prop} (h : w.heap[g]? = some (.cells cur 57 (0, 0))) (hsz : cur.size = cap * 4) (hL : L.length ≤ cap) (hcap : cap ≤ maxLen) (hc : ∀ t, t < L.length * 4 → cur[t]? = some ((encC L[t / 4]!)[t % 4]!)) (hb : base ≤ g) (ho : ok g) :
    k57.R 57 w base ok (.slice (some ⟨g, 0, none⟩) L.length cap) L := by
  have hlen : (cur.toList.take (L.length * 4)).length = L.length * 4 := by
    have e : cur.toList.length = cap * 4 := by rw [Array.length_toList, hsz]
    rw [List.length_take, e]; omega
  refine ⟨fun k hk => by simp [Value.ownBlock] at hk; rw [← hk]; exact ho, cur.toList.take (L.length * 4), ⟨hlen, .inr ⟨g, cap, cur, rfl, hb, h, hL, hcap, hsz, rfl⟩⟩, hlen, fun j p hj => ?_⟩
  have hlt := (List.getElem?_eq_some_iff.mp hj).1
  have at_ : ∀ i, i < 4 → (((cur.toList.take (L.length * 4)).drop (j * 4)).take 4)[i]? = some ((encC p)[i]!) := by
    intro i hi
    rw [List.getElem?_take, if_pos hi, List.getElem?_drop, List.getElem?_take, if_pos (by omega), Array.getElem?_toList, hc _ (by omega), enc_at L j i p hj hi]
  show k57.M w base _ p (((cur.toList.take (L.length * 4)).drop (j * 4)).take 4)
  have e : ((cur.toList.take (L.length * 4)).drop (j * 4)).take 4 = [.int .i64 p.f0, .string p.f1, .int .i64 p.f2, .int .i64 p.f3] := four_list (by rw [List.length_take, List.length_drop, hlen]; omega) (at_ 0 (by omega)) (at_ 1 (by omega)) (at_ 2 (by omega)) (at_ 3 (by omega))
  rw [e]
  exact k57_mkM _ _ _ p
theorem row_open {w : World} {base : Nat} {v : Value} {L : List Hp} {ok : Nat → Prop} (h : k57.R 57 w base ok v L) : (v = .slice none 0 0 ∧ L = []) ∨ ∃ g cap cur, v = .slice (some ⟨g, 0, none⟩) L.length cap ∧ base ≤ g ∧ ok g ∧ w.heap[g]? = some (.cells cur 57 (0, 0)) ∧ cur.size = cap * 4 ∧ L.length ≤ cap ∧ cap ≤ maxLen ∧ ∀ t, t < L.length * 4 → cur[t]? = some ((encC L[t / 4]!)[t % 4]!) := by
  obtain ⟨h0, inner, ⟨hl, hv⟩, hr1, hr2⟩ := h
  rcases hv with ⟨rfl, hn⟩ | ⟨g, cap, cur, rfl, hb, hg, h1, h2, h3, h4⟩
  · exact .inl ⟨rfl, List.length_eq_zero_iff.mp hn⟩
  · refine .inr ⟨g, cap, cur, rfl, hb, h0 g rfl, hg, h3, h1, h2, fun t ht => ?_⟩
    have hj : t / 4 < L.length := by omega
    have hm := hr2 (t / 4) L[t / 4] (List.getElem?_eq_getElem hj)
    have hm2 := k57_openM hm
    have e : ((inner.drop (t / 4 * k57.sz)).take k57.sz)[t % 4]? = inner[t]? := by
      show ((inner.drop (t / 4 * 4)).take 4)[t % 4]? = inner[t]?
      rw [List.getElem?_take, if_pos (by omega), List.getElem?_drop]
      congr 1
      omega
    have e2 : inner[t]? = cur[t]? := by
      rw [← h4]
      show (cur.toList.take (L.length * 4))[t]? = _
      rw [List.getElem?_take, if_pos ht, Array.getElem?_toList]
    rw [← e2, ← e, hm2, getElem!_pos L (t / 4) hj]
    have : t % 4 = 0 ∨ t % 4 = 1 ∨ t % 4 = 2 ∨ t % 4 = 3 := by omega
    rcases this with z | z | z | z <;> rw [z] <;> rfl
theorem holds_of {w : World} {g : Nat} {cur : Array Value} {L : List Hp} (h : w.heap[g]? = some (.cells cur 57 (0, 0))) (hc : ∀ t, t < L.length * 4 → cur[t]? = some ((encC L[t / 4]!)[t % 4]!)) : Go.Sort.HoldsK encC 4 w g 0 L.toArray := by
  intro t ht
  have ht' : t < L.length * 4 := by simpa using ht
  refine ⟨?_, blk_frozen h _⟩
  rw [blk_cell h, flat_at L t ht']
  simpa using hc t ht'
theorem sort_block {w : World} {g : Nat} {cur : Array Value} {L : List Hp} (n : Nat) (os : Array Obj) (h : w.heap[g]? = some (.cells cur 57 (0, 0))) (hL : L.length * 4 ≤ cur.size) :
    ∃ cur' : Array Value, (Go.Proofs.sortWorldK encC 4 w g 0 n L.toArray os).heap[g]? = some (.cells cur' 57 (0, 0)) ∧ cur'.size = cur.size ∧ ∀ t, t < L.length * 4 → cur'[t]? = some ((encC L[t / 4]!)[t % 4]!) := by
  refine ⟨Go.Sort.putCells id 0 (Go.Sort.flatK encC 4 L.toArray) cur, ?_, by simp [Go.Sort.putCells], fun t ht => ?_⟩
  · have hlt := blk_lt h
    unfold Go.Proofs.sortWorldK Go.Sort.putRowK Go.Sort.putRow Go.Sort.grow
    have e : (Go.Sort.mapBlock (Go.Sort.ahead w n) g (Go.Sort.putCells id 0 (Go.Sort.flatK encC 4 L.toArray))).heap[g]? = some (.cells (Go.Sort.putCells id 0 (Go.Sort.flatK encC 4 L.toArray) cur) 57 (0, 0)) := by
      show (w.heap.modify g (Go.Sort.onCells _))[g]? = _
      rw [Array.getElem?_modify, if_pos rfl, h]; rfl
    show ((Go.Sort.mapBlock (Go.Sort.ahead w n) g (Go.Sort.putCells id 0 (Go.Sort.flatK encC 4 L.toArray))).heap ++ os)[g]? = _
    rw [Array.getElem?_append_left (by show g < (w.heap.modify g _).size; simpa using hlt)]
    exact e
  · unfold Go.Sort.putCells
    rw [Array.getElem?_mapIdx]
    obtain ⟨x, hx⟩ : ∃ x, cur[t]? = some x := ⟨_, Array.getElem?_eq_getElem (by omega)⟩
    rw [hx]
    simp only [Option.map_some]
    rw [if_pos ⟨Nat.zero_le _, by rw [Go.Sort.size_flatK]; simpa using ht⟩, Nat.sub_zero, flat_at L t ht]
    rfl
theorem sort_grown {w : World} {g : Nat} (n : Nat) (os : Array Obj) (d : Array Hp) : w.grownBy (Go.Proofs.sortWorldK encC 4 w g 0 n d os) (some g) := by
  unfold Go.Proofs.sortWorldK Go.Sort.putRowK Go.Sort.putRow Go.Sort.grow
  refine ⟨rfl, rfl, rfl, ?_, fun k hk hne => ?_⟩
  · show w.heap.size ≤ ((w.heap.modify g _) ++ os).size
    simp
  · show ((w.heap.modify g _) ++ os)[k]? = _
    rw [Array.getElem?_append_left (by simpa using hk), Array.getElem?_modify, if_neg (by simpa using hne.symm)]
theorem toH_inj {x y : Hp} (h : toH x = toH y) : x = y := by
  obtain ⟨a, b, c, d⟩ := x
  obtain ⟨e, f, g, k⟩ := y
  unfold toH at h
  injection h with h1 h2 h3 h4
  subst h1; subst h2; subst h3; subst h4
  rfl
theorem to_to (x : Hd) : toH (toP x) = x := rfl
theorem to_toP (x : Hp) : toP (toH x) = x := rfl
theorem SortH.ext : ∀ {L M : List Hd}, SortH L → SortH M → (∀ c, c ∈ L ↔ c ∈ M) → L = M
  | [], [], _, _, _ => rfl
  | [], b :: r, _, _, h => by have := (h b).mpr (.head _); cases this
  | a :: r, [], _, _, h => by have := (h a).mp (.head _); cases this
  | a :: r, b :: t, hl, hm, h => by
    obtain ⟨l1, l2⟩ := List.pairwise_cons.mp hl
    obtain ⟨m1, m2⟩ := List.pairwise_cons.mp hm
    have e : a = b := by
      rcases List.mem_cons.mp ((h a).mp (.head _)) with e | e
      · exact e
      · rcases List.mem_cons.mp ((h b).mpr (.head _)) with q | q
        · exact q.symm
        · have h1 := m1 a e
          have h2 := l1 b q
          exact absurd (ltH_trans h2 h1) (by rw [ltH_irrefl]; simp)
    subst e
    have : r = t := SortH.ext l2 m2 (fun c => by
      constructor
      · intro hc
        rcases List.mem_cons.mp ((h c).mp (.tail _ hc)) with q | q
        · subst q; exact absurd (l1 c hc) (by rw [ltH_irrefl]; simp)
        · exact q
      · intro hc
        rcases List.mem_cons.mp ((h c).mpr (.tail _ hc)) with q | q
        · subst q; exact absurd (m1 c hc) (by rw [ltH_irrefl]; simp)
        · exact q)
    rw [this]
/-- What the sort leaves is the one rising list of what was there. -/
theorem sorted_is {d d' : Array Hp} {L : List Hd} (hp : Go.Sort.PermIn 0 d.size d d') (hs : Go.Sort.SortedIn (Go.Proofs.ltOf cmpC) 0 d.size d') (hn : (d.toList.map toH).Pairwise fun a b => kf a ≠ kf b) (hm : ∀ c, c ∈ d.toList.map toH ↔ c ∈ L) (hL : SortH L) : d' = (L.map toP).toArray := by
  obtain ⟨p1, p2, p3⟩ := hp
  have e1 : d.extract 0 d.size = d := by simp
  have e2 : d'.extract 0 d.size = d' := by rw [← p1]; simp
  rw [e1, e2] at p3
  have p4 : (d.toList.map toH).Perm (d'.toList.map toH) := (p3.symm).map toH
  have hn' : (d'.toList.map toH).Pairwise fun a b => kf a ≠ kf b := (p4.pairwise_iff (fun {a b} (z : kf a ≠ kf b) => z.symm)).mp hn
  have hS : SortH (d'.toList.map toH) := by
    refine List.pairwise_iff_getElem.mpr (fun i j hi hj hij => ?_)
    have hi' : i < d'.size := by simpa using hi
    have hj' : j < d'.size := by simpa using hj
    have h := hs i j (Nat.zero_le _) hij (by omega)
    rw [lt_cmp, getElem!_pos d' j hj', getElem!_pos d' i hi'] at h
    unfold ltP at h
    rw [List.getElem_map, List.getElem_map]
    cases hx : ltH (toH d'.toList[i]) (toH d'.toList[j]) with
    | true => rfl
    | false =>
      have e := ltH_total hx (by simpa using h)
      have := List.pairwise_iff_getElem.mp hn' i j hi hj hij
      rw [List.getElem_map, List.getElem_map] at this
      exact absurd e this
  have := SortH.ext hS hL (fun c => (p4.symm.mem_iff).trans (hm c))
  rw [← this, List.map_map]
  have : (toP ∘ toH) = id := by funext x; rfl
  rw [this]
  simp
end Go.Proofs.Ytgdnljhndjlefaa.QNeedFits
