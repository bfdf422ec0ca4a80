/- The sort of what is held, by owner, then by name. No conditions beyond those that each theorem names. -/
import Derived.Test.YtgepalpcaphbeaaQPoolPlaysPoolGive
import Derived.Shelf.SlSortCmp.WholeK
import Derived.Shelf.Lay
import Derived.Ground.SlsfProg
namespace Go.Proofs.Ytgepalpcaphbeaa.QPoolPlays
open Go.Shelf
open Go.RowKit Go.Proofs.Ytgepalpcaphbeaa.PPoolPlays Go.Proofs.YtgepalpcaphbeaaW.PrintWords Go.Proofs.YtgepalpcaphbeaaW.PrintLast Go.Proofs.YtgepalpcaphbeaaW.PrintMore Go.Proofs.Ytgepalpcaphbeaa.MMaps
set_option linter.unusedVariables false
set_option linter.unusedSimpArgs false
end Go.Proofs.Ytgepalpcaphbeaa.QPoolPlays
namespace Go.Proofs
open Go.Shelf Go.RowKit Go.Lib Go.Sort
shelf_lay_g SlLaysF0.n6 Slsf 6 at Try 26 as Ytgepalpcaphbeaa.QPoolPlays.sortC
end Go.Proofs
namespace Go.Proofs.Ytgepalpcaphbeaa.QPoolPlays
open Go.Shelf
open Go.RowKit Go.Proofs.Ytgepalpcaphbeaa.PPoolPlays Go.Proofs.YtgepalpcaphbeaaW.PrintWords Go.Proofs.YtgepalpcaphbeaaW.PrintLast Go.Proofs.YtgepalpcaphbeaaW.PrintMore Go.Proofs.Ytgepalpcaphbeaa.MMaps
set_option linter.unusedVariables false
set_option linter.unusedSimpArgs false
set_option maxRecDepth 100000 in
theorem isAggC : ∀ w, (isAgg 40).run Try.prog w = .ok true w := fun w => by rfl
set_option maxRecDepth 100000 in
theorem sizeOfC : ∀ w, (Go.sizeOf 40).run Try.prog w = .ok 4 w := fun w => by rfl
/-- What a pool's list holds, as the program has it. -/
abbrev Hp := S40
def toH (x : Hp) : Hd := ⟨x.f0, x.f1, x.f2, x.f3⟩
def toP (x : Hd) : Hp := ⟨x.f0, x.f1, x.f2, x.f3⟩
def ltP (x y : Hp) : Bool := ltH (toH x) (toH y)
def encC (x : Hp) : List Value := [.int .i64 x.f0, .string x.f1, .int .i64 x.f2, .int .i64 x.f3]
def cmpS (a b : ByteArray) : Int := if Op.bytesLess a.toList b.toList = true then -1 else if a.toList = b.toList then 0 else 1
def cmpI (a b : Int) : Int := if a < b then -1 else if a > b then 1 else 0
def cmpC (x y : Hp) : Int := if cmpI x.f0 y.f0 = 0 then cmpS x.f1 y.f1 else cmpI x.f0 y.f0
theorem lt_cmp (x y : Hp) : Go.Proofs.ltOf cmpC x y = ltP x y := by
  unfold Go.Proofs.ltOf cmpC ltP ltH cmpS cmpI toH
  by_cases h : x.f0 < y.f0
  · simp [h]
  · by_cases g : y.f0 < x.f0
    · have e : ¬ x.f0 = y.f0 := by omega
      simp [h, g, e]
    · have e : x.f0 = y.f0 := by omega
      by_cases q : Op.bytesLess x.f1.toList y.f1.toList = true
      · simp [e, q]
      · have q' : Op.bytesLess x.f1.toList y.f1.toList = false := by simpa using q
        by_cases l : x.f1.toList = y.f1.toList
        · rw [l] at q'; simp [e, l, q']
        · simp [e, q', l]
/-! ### The closure -/
/-- A world that has grown, and drawn; nothing else. -/
def Gr (V W : World) : Prop := ∃ q os, W = Go.Sort.grow (V.drewN q) os
theorem Gr.refl (V : World) : Gr V V := ⟨0, #[], by rw [Go.Sort.grow_empty]; rfl⟩
theorem Gr.drewN {V W : World} (h : Gr V W) (n : Nat) : Gr V (W.drewN n) := by
  obtain ⟨q, os, rfl⟩ := h
  exact ⟨q + n, os, by unfold Go.Sort.grow World.drewN; simp [Nat.add_assoc]⟩
theorem Gr.drew {V W : World} (h : Gr V W) : Gr V W.drew := h.drewN 1
theorem Gr.drawn {V W W' : World} (h : Gr V W) (hd : Drawn0 W W') : Gr V W' := by obtain ⟨n, rfl⟩ := hd; exact h.drewN n
theorem Gr.alloc {V W : World} (h : Gr V W) (o : Obj) : Gr V (W.alloc o) := by
  obtain ⟨q, os, rfl⟩ := h
  exact ⟨q, os ++ #[o], by rw [Go.Sort.alloc_eq_grow, Go.Sort.grow_grow]⟩
theorem Gr.trans {U V W : World} (h : Gr U V) (k : Gr V W) : Gr U W := by
  obtain ⟨q, os, rfl⟩ := h
  obtain ⟨n, os2, rfl⟩ := k
  exact ⟨q + n, os ++ os2, by unfold Go.Sort.grow World.drewN; simp [Nat.add_assoc, Array.append_assoc]⟩
theorem Gr.below {V W : World} (h : Gr V W) : Below V.heap.size V W := by
  obtain ⟨q, os, rfl⟩ := h
  refine ⟨rfl, rfl, rfl, by unfold Go.Sort.grow World.drewN; simp, fun k hk => ?_⟩
  unfold Go.Sort.grow World.drewN
  exact Array.getElem?_append_left hk
theorem C_of_block {α : Type} (d : Kd α) {w : World} {g : Nat} {t : TypeId} {cs : Array Value} {xs : List α} (h : w.heap[g]? = some (.cells cs t (0, 0))) (hm : xs.length ≤ 9223372036854775807) (hr : Reps (d.K w) d.sz xs cs.toList) : d.C w (some ⟨g, 0, none⟩) xs.length xs := by
  refine ⟨rfl, hm, fun hn => ⟨_, rfl, fun j p hj => ⟨_, d.K_len (hr.2 j p hj), hr.2 j p hj, fun i u hu => ?_⟩⟩⟩
  have e : (Addr.add ⟨g, 0, none⟩ (j * d.sz + i)) = ⟨g, j * d.sz + i, none⟩ := by simp [Addr.add]; intro a b; omega
  rw [e, blk_cell h]
  have hi : i < d.sz := by
    have h1 := d.K_len (hr.2 j p hj)
    have h2 := (List.getElem?_eq_some_iff.mp hu).1
    omega
  rw [List.getElem?_take, if_pos hi, List.getElem?_drop] at hu
  simpa using hu
theorem ints2 (w : World) (g : Nat) (t : TypeId) (a b : Int) (h : w.heap[g]? = some (.cells #[.int .i64 a, .int .i64 b] t (0, 0))) : Kd.C (Kd.int .i64) w (some ⟨g, 0, none⟩) [a, b].length [a, b] := C_of_block (Kd.int .i64) h (by simp) (Kd.reps_scalar (enc := Value.int .i64) [a, b])
theorem or_is (a b : Int) : cmp_Or_int.f 5 [a, b] = some (if a = 0 then b else a) := by
  unfold cmp_Or_int.f
  rw [cmp_Or_int.l0.eq_2, if_pos (by simp), if_pos (by omega), if_pos (by simp), show rd [a, b] 0 = a from rfl]
  by_cases h : a = 0
  · rw [if_pos h, if_pos h, show wrap64 (0 + 1) = 1 from wrap64_id (by omega) (by omega), cmp_Or_int.l0.eq_2, if_pos (by simp), if_pos (by omega), if_pos (by simp), show rd [a, b] 1 = b from rfl]
    by_cases h2 : b = 0
    · rw [if_pos h2, show wrap64 (1 + 1) = 2 from wrap64_id (by omega) (by omega), cmp_Or_int.l0.eq_2, if_neg (by simp), h2]
    · rw [if_neg h2]
  · rw [if_neg h, if_neg h]
theorem cmpI_is (a b : Int) : cmp_Compare_int64.f a b = some (cmpI a b) := by
  unfold cmp_Compare_int64.f cmp_isNaN_int64.f cmpI
  simp
  by_cases h : a < b
  · simp [h]
  · by_cases g : b < a <;> simp [h, g]
set_option maxHeartbeats 8000000 in
set_option maxRecDepth 100000 in
theorem List1.calls (x y : Hp) (w : World) : Calls Try.prog 27 #[.agg #[.int .i64 x.f0, .string x.f1, .int .i64 x.f2, .int .i64 x.f3], .agg #[.int .i64 y.f0, .string y.f1, .int .i64 y.f2, .int .i64 y.f3]] w fun e w' => e = .returned (.int .i64 (cmpC x y)) ∧ ∃ q os', w' = Go.Sort.grow (w.drewN q) os' := by
  have e1 : ∀ W, Calls Try.prog 30 #[.string x.f1, .string y.f1] W fun e w' => e = .returned (.int .i64 (cmpS x.f1 y.f1)) ∧ Drawn0 W w' := fun W => cmp_Compare_string.calls x.f1 y.f1 _ W rfl
  have e2 : ∀ W, Calls Try.prog 29 #[.int .i64 x.f0, .int .i64 y.f0] W fun e w' => e = .returned (.int .i64 (cmpI x.f0 y.f0)) ∧ Drawn0 W w' := fun W => cmp_Compare_int64.calls x.f0 y.f0 _ W (cmpI_is _ _)
  have e3 : ∀ W g t, W.heap[g]? = some (.cells #[.int .i64 (cmpI x.f0 y.f0), .int .i64 (cmpS x.f1 y.f1)] t (0, 0)) → Calls Try.prog 28 #[.slice (some ⟨g, 0, none⟩) 2 2] W fun e w' => e = .returned (.int .i64 (cmpC x y)) ∧ Drawn0 W w' := fun W g t h => cmp_Or_int.calls 5 (some ⟨g, 0, none⟩) 2 [cmpI x.f0 y.f0, cmpS x.f1 y.f1] _ W (ints2 W g t _ _ h) (by simp) (or_is _ _)
  generalize cmpC x y = r at e3 ⊢
  generalize cmpS x.f1 y.f1 = a at e1 e3
  generalize cmpI x.f0 y.f0 = b at e2 e3
  go_enter Try.func27, Try.ntmps27
  go_upto_region 1 with (fail)
  obtain ⟨W, hW⟩ : ∃ W, W = (w.alloc (.cells #[.int .i64 x.f0, .string x.f1, .int .i64 x.f2, .int .i64 x.f3] 40 (0, 0))).alloc (.cells #[.int .i64 y.f0, .string y.f1, .int .i64 y.f2, .int .i64 y.f3] 40 (0, 0)) := ⟨_, rfl⟩
  have HW := Aside0.mk (show Gr w W by rw [hW]; exact ((Gr.refl w).alloc _).alloc _)
  have k1 : W.heap[w.heap.size]? = some (.cells #[.int .i64 x.f0, .string x.f1, .int .i64 x.f2, .int .i64 x.f3] 40 (0, 0)) := by rw [hW]; exact blk_alloc (blk_new w _) _
  have k2 : W.heap[w.heap.size + 1]? = some (.cells #[.int .i64 y.f0, .string y.f1, .int .i64 y.f2, .int .i64 y.f3] 40 (0, 0)) := by
    rw [hW]
    have := blk_new (w.alloc (.cells #[.int .i64 x.f0, .string x.f1, .int .i64 x.f2, .int .i64 x.f3] 40 (0, 0))) (.cells #[.int .i64 y.f0, .string y.f1, .int .i64 y.f2, .int .i64 y.f3] 40 (0, 0))
    rwa [show (w.alloc (.cells #[.int .i64 x.f0, .string x.f1, .int .i64 x.f2, .int .i64 x.f3] 40 (0, 0))).heap.size = w.heap.size + 1 from by simp] at this
  rw [← hW]
  clear hW
  have HS : Aside0 (∀ W' : World, Gr W W' → W'.cell? ⟨w.heap.size, 0, none⟩ = some (.int .i64 x.f0) ∧ W'.cell? ⟨w.heap.size, 1, none⟩ = some (.string x.f1) ∧ W'.cell? ⟨w.heap.size + 1, 0, none⟩ = some (.int .i64 y.f0) ∧ W'.cell? ⟨w.heap.size + 1, 1, none⟩ = some (.string y.f1)) :=
    ⟨fun W' h => ⟨blk_cell (blk_below k1 h.below) 0, blk_cell (blk_below k1 h.below) 1, blk_cell (blk_below k2 h.below) 0, blk_cell (blk_below k2 h.below) 1⟩⟩
  have hv0 := Gr.refl W
  clear k1 k2
  go_region_held3 (fun W' => W'.cell? ⟨w.heap.size, 0, none⟩ = some (.int .i64 x.f0) ∧ W'.cell? ⟨w.heap.size, 1, none⟩ = some (.string x.f1) ∧ W'.cell? ⟨w.heap.size + 1, 0, none⟩ = some (.int .i64 y.f0) ∧ W'.cell? ⟨w.heap.size + 1, 1, none⟩ = some (.string y.f1))
    (exact HS.out _ (by repeat (first | assumption | apply Gr.drew | apply Gr.alloc)))
    (first | (go_at_call 30; refine (e1 _).mono ?_; rintro e w1 ⟨rfl, hd1⟩; have hb1 : Gr W w1 := Gr.drawn (by repeat (first | assumption | apply Gr.drew | apply Gr.alloc)) hd1; clear hd1) | (go_at_call 29; refine (e2 _).mono ?_; rintro e w2 ⟨rfl, hd2⟩; have hb2 : Gr W w2 := Gr.drawn (by repeat (first | assumption | apply Gr.drew | apply Gr.alloc)) hd2; clear hd2) | (go_at_call 28; refine (e3 _ _ 3 (by first | exact blk_new _ _ | exact blk_new _ _)).mono ?_; rintro e w3 ⟨rfl, hd3⟩; have hb3 : Gr W w3 := Gr.drawn (by repeat (first | assumption | apply Gr.drew | apply Gr.alloc)) hd3; clear hd3))
  go_wp2
  go_ret
  exact ⟨rfl, HW.out.trans hb3⟩
theorem swoC : Go.Sort.SWO (Go.Proofs.ltOf cmpC) where
  irrefl x := by rw [lt_cmp]; exact ltH_irrefl _
  trans x y z h1 h2 := by rw [lt_cmp] at *; exact ltH_trans h1 h2
  ntrans x y z h1 h2 := by
    rw [lt_cmp] at *
    unfold ltP at *
    cases h : ltH (toH x) (toH z) with
    | false => rfl
    | true =>
      cases h3 : ltH (toH y) (toH x) with
      | true => rw [ltH_trans h3 h] at h2; cases h2
      | false =>
        have e := ltH_total h1 h3
        unfold kf at e
        injection e with e1 e2
        unfold ltH at h h2
        rw [e1, e2] at h
        rw [h] at h2
        cases h2
instance : Inhabited Hp := ⟨⟨0, ⟨#[]⟩, 0, 0⟩⟩
theorem sort_calls (blk off cap : Nat) (d : Array Hp) (w : World) (hH : Go.Sort.HoldsK encC 4 w blk off d) (hblk : blk < w.heap.size) (hsz : d.size < 4611686018427387904) :
    Calls Try.prog 26 #[.slice (some ⟨blk, off, none⟩) d.size cap, .func (.func 27) #[] #[]] w fun e w' => e = .returned (.tuple #[]) ∧ ∃ d' n os, Go.Sort.PermIn 0 d.size d d' ∧ Go.Sort.SortedIn (Go.Proofs.ltOf cmpC) 0 d.size d' ∧ w' = Go.Proofs.sortWorldK encC 4 w blk off n d' os :=
  Go.Proofs.AnyQ.slices_SortFunc sortC 4 isAggC sizeOfC encC (fun _ => rfl) (fun x v hv => by simp [encC] at hv; rcases hv with rfl | rfl | rfl | rfl <;> rfl) cmpC swoC 27 #[] blk off cap d w (enters_of Try.func27 (by kernel_rfl) rfl) (fun _ _ _ _ x y => List1.calls x y _) hH hblk hsz
end Go.Proofs.Ytgepalpcaphbeaa.QPoolPlays
