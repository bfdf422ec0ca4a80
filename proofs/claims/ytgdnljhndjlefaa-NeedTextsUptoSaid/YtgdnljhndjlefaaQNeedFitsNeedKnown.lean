/- The fixed calls of needs. No conditions beyond those that each theorem names. -/
import Derived.Test.YtgdnljhndjlefaaQNeedFitsNeedAsk
import Derived.Test.YtgdnljhndjlefaaQNeedFitsNeedText
import Derived.Shelf.Lay
import Derived.Shelf.Strings.OnBuilder
namespace Go.Proofs
open Go.Shelf
shelf_lay Lays.n156 Nm 156 at Try as Try.lays156
theorem Try.Builder_Extra_156 : Builder.Extra Try.prog Try.lays156_ren where
  sizeBuilder := by kernel_rfl
  liesBuilder := by kernel_rfl
  t5 := Try.underlying5
  a5 := Try.isAgg5
  z5 := Try.sizeOf5
  v5 := Try.zeroValue5
  infoByte := by kernel_rfl
  cellsByte := by kernel_rfl
  sizeByte := by kernel_rfl
  neB5 := by decide
end Go.Proofs
namespace Go.Proofs.Ytgdnljhndjlefaa.QNeedFits
open Go.RowKit Go.Proofs.Ytgdnljhndjlefaa.PNeedFits Go.Proofs.YtgdnljhndjlefaaW.PrintWords Go.Proofs.YtgdnljhndjlefaaW.PrintLast Go.Proofs.YtgdnljhndjlefaaW.PrintMore Go.Proofs.Ytgdnljhndjlefaa.MMaps
set_option linter.unusedVariables false
set_option linter.unusedSimpArgs false
set_option maxRecDepth 100000
theorem join_ok : JoinOk := fun bk o c xs sep w hcells hbk hN hcap hlen => Any.strings_Join Try.lays156 Try.Builder_Extra_156 bk o c xs sep w hcells hbk hN hcap hlen
theorem join_none : JoinNone := fun a c sep w => Any.strings_Join_none Try.lays156 Try.Builder_Extra_156 a c sep w
abbrev cpu : ByteArray := ⟨#[99, 112, 117]⟩
abbrev db : ByteArray := ⟨#[100, 98]⟩
theorem q1 : eqS cpu cpu = true := eqS_self _
theorem q2 : eqS db db = true := eqS_self _
theorem q3 : eqS cpu db = false := by unfold eqS; rw [toList_data, toList_data]; decide
theorem q4 : eqS db cpu = false := by unfold eqS; rw [toList_data, toList_data]; decide
abbrev j1 : Rj := ⟨cpu, 4, false⟩
abbrev j2 : Rj := ⟨db, 0, true⟩
abbrev R0 : List Rs := [⟨cpu, 4, false⟩, ⟨db, 0, true⟩]
theorem new0 : newR [j1, j2] = R0 := by
  simp [newR, addRs, findR, q3, asR, clampI, List.find?]
abbrev n1 : Nd := ⟨cpu, 3, 0⟩
abbrev n3 : Nd := ⟨cpu, 2, 0⟩
abbrev n5 : Nd := ⟨cpu, 1, 0⟩
abbrev n6 : Nd := ⟨db, 0, 1⟩
theorem fits1 : fitsOf R0 [n1] = 0 := by
  simp [fitsOf, mayOf, rights, right1, findR, q1, q2, q3, q4, okNeed, busyOf, freeOf, unitsOf, sumBy, List.find?]
theorem both1 : bothOf R0 [n1] [n3] = false := by
  unfold bothOf
  rw [fits1]
  simp [mayOf, rights, right1, findR, q1, q2, q3, q4, okNeed, busyOf, freeOf, unitsOf, sumBy, ofName, takes, heldAs, putH, List.find?]
theorem both2 : bothOf R0 [n1] [n5] = true := by
  unfold bothOf
  rw [fits1]
  simp [mayOf, rights, right1, findR, q1, q2, q3, q4, okNeed, busyOf, freeOf, unitsOf, sumBy, ofName, takes, heldAs, putH, List.find?]
theorem kt3 : kindT 3 0 = ⟨#[51]⟩ := by
  unfold kindT
  rw [if_pos rfl, if_neg (by decide), numB_lt (by decide)]
  rfl
theorem kt1 : kindT 0 1 = ⟨#[115]⟩ := rfl
abbrev tx0 : ByteArray := ⟨#[99, 112, 117, 58, 51, 32, 100, 98, 58, 115]⟩
theorem text1 : textB [n1, n6] = tx0 := by
  unfold textB joinB pieceB
  simp only [List.map_cons, List.map_nil, kt3, kt1]
  rfl
theorem na (g : Nat) (w : World) (hb : w.heap[g]? = some (.cells #[.string cpu, .int .i64 4, .bool false, .string db, .int .i64 0, .bool true] 64 (0, 0))) : Calls Try.prog 9 #[.slice (some ⟨g, 0, none⟩) 2 2] w fun e w' => ∃ p bt bh, e = .returned (.pointer (some ⟨p, 0, none⟩)) ∧ w.heap.size ≤ p ∧ w.heap.size ≤ bt ∧ w.heap.size ≤ bh ∧ PoolAt w' p bt bh R0 [] ∧ Below w.heap.size w w' := by
  have := New.calls (some ⟨g, 0, none⟩) 2 [j1, j2] w (C_of_block k64 hb (by decide) (((Reps.none _ _).snoc (k64_mk w j1) rfl).snoc (k64_mk w j2) rfl)) (by decide) (by decide) (by decide)
  rw [new0] at this
  exact this
theorem bo (p bt bh t g : Nat) (n : Nd) (r : Bool) (hr : bothOf R0 [n1] [n] = r) (hs : n.f0.size ≤ maxLen) (w : World) (h : PoolAt w p bt bh R0 []) (hb : w.heap[t]? = some (.cells #[.string cpu, .int .i64 3, .int .i64 0] 52 (0, 0))) (hb2 : w.heap[g]? = some (.cells #[.string n.f0, .int .i64 n.f1, .int .i64 n.f2] 52 (0, 0))) :
    Calls Try.prog 18 #[.pointer (some ⟨p, 0, none⟩), .slice (some ⟨t, 0, none⟩) 1 1, .slice (some ⟨g, 0, none⟩) 1 1] w fun e w' => e = .returned (.bool r) ∧ Below w.heap.size w w' := by
  subst hr
  exact Both.calls p bt bh R0 [] (some ⟨t, 0, none⟩) 1 [n1] (some ⟨g, 0, none⟩) 1 [n] w h (C_of_block k52 hb (by decide) ((Reps.none _ _).snoc (k52_mk w n1) rfl)) (by decide) (by decide) (by decide) (C_of_block k52 hb2 (show 1 ≤ 9223372036854775807 by decide) ((Reps.none _ _).snoc (k52_mk w n) rfl)) (Nat.le_refl 1) (fun m hm => by rw [List.mem_singleton] at hm; subst hm; exact hs) (by simp) (by decide)
theorem fi (p bt bh t : Nat) (w : World) (h : PoolAt w p bt bh R0 []) (hb : w.heap[t]? = some (.cells #[.string cpu, .int .i64 3, .int .i64 0] 52 (0, 0))) :
    Calls Try.prog 16 #[.pointer (some ⟨p, 0, none⟩), .slice (some ⟨t, 0, none⟩) 1 1] w fun e w' => e = .returned (.int .i64 0) ∧ Below w.heap.size w w' := by
  have := Fits.calls p bt bh R0 [] (some ⟨t, 0, none⟩) 1 [n1] w h (C_of_block k52 hb (by decide) ((Reps.none _ _).snoc (k52_mk w n1) rfl)) (by decide) (by decide) (by decide)
  rw [fits1] at this
  exact this
theorem te (g : Nat) (w : World) (hb : w.heap[g]? = some (.cells #[.string cpu, .int .i64 3, .int .i64 0, .string db, .int .i64 0, .int .i64 1] 52 (0, 0))) :
    Calls Try.prog 27 #[.slice (some ⟨g, 0, none⟩) 2 2] w fun e w' => e = .returned (.string tx0) ∧ Below w.heap.size w w' := by
  have := Text.calls join_ok join_none (some ⟨g, 0, none⟩) 2 [n1, n6] w (C_of_block k52 hb (by decide) (((Reps.none _ _).snoc (k52_mk w n1) rfl).snoc (k52_mk w n6) rfl)) (by decide) (by decide) (by decide) (by
    unfold pieceB
    simp only [List.map_cons, List.map_nil, kt3, kt1]
    decide)
  rw [text1] at this
  exact this
set_option maxHeartbeats 8000000 in
theorem known.calls (w : World) : Calls Try.prog 8 #[] w fun e w' => e = .returned (.bool true) ∧ Below w.heap.size w w' := by
  have ba : ∀ (W : World) (o : Obj), Below W.heap.size W (W.alloc o) := fun W o => below_alloc (Below.refl _ _) _
  have hnew := fun (W : World) o (hb : (W.alloc o).heap[W.heap.size]? = _) => na W.heap.size (W.alloc o) hb
  go_enter Try.func8, Try.ntmps8
  go_upto_region 3 with (go_at_call 9; refine (hnew _ _ (blk_new _ _)).mono ?_; rintro e w1 ⟨p, bt, bh, rfl, hp, hbt, hbh, hP1, hB⟩; have hB1 := (ba w _).trans (hB.mono (ba w _).size); clear hnew hB hp hbt hbh)
  obtain ⟨W, hW⟩ : ∃ W, W = w1.alloc (.cells #[.string cpu, .int .i64 3, .int .i64 0] 52 (0, 0)) := ⟨_, rfl⟩
  have hT0 : W.heap[w1.heap.size]? = some (.cells #[.string cpu, .int .i64 3, .int .i64 0] 52 (0, 0)) := by rw [hW]; exact blk_new _ _
  have hP2 : PoolAt W p bt bh R0 [] := by rw [hW]; exact hP1.below (ba _ _)
  have hB2 : Below w.heap.size w W := by rw [hW]; exact below_go hB1 hB1.size (ba _ _)
  rw [← hW]
  clear hW hP1 hB1
  generalize w1.heap.size = t at *
  have k1 := fun (W : World) o (h : PoolAt W p bt bh R0 []) hT (hb : (W.alloc o).heap[W.heap.size]? = _) => bo p bt bh t W.heap.size n3 false both1 (by decide) (W.alloc o) (h.below (ba W o)) (blk_alloc hT _) hb
  have k2 := fun (W : World) o (h : PoolAt W p bt bh R0 []) hT (hb : (W.alloc o).heap[W.heap.size]? = _) => bo p bt bh t W.heap.size n5 true both2 (by decide) (W.alloc o) (h.below (ba W o)) (blk_alloc hT _) hb
  have k3 := fun (W : World) o (hb : (W.alloc o).heap[W.heap.size]? = _) => te W.heap.size (W.alloc o) hb
  have kk : ∀ (V X : World) o, Below V.heap.size (V.alloc o) X → Below V.heap.size V X := fun V X o h => (ba V o).trans h
  go_wp2_with (first
    | (go_at_call 18; first
      | ((with_reducible refine (k1 _ _ hP2 hT0 (blk_new _ _)).mono ?_); rintro e w3 ⟨rfl, hb⟩; have b3 : Below W.heap.size W w3 := (ba W _).trans (hb.mono (ba W _).size); have hP3 := hP2.below b3; have hT3 := blk_below hT0 b3; have hB3 := below_go hB2 hB2.size b3; clear hP2 hT0 hB2 hb b3 k1)
      | ((with_reducible refine (k2 _ _ hP3 hT3 (blk_new _ _)).mono ?_); rintro e w4 ⟨rfl, hb⟩; have b4 : Below w3.heap.size w3 w4 := (ba w3 _).trans (hb.mono (ba w3 _).size); have hP4 := hP3.below b4; have hT4 := blk_below hT3 b4; have hB4 := below_go hB3 hB3.size b4; clear hP3 hT3 hB3 hb b4 k2))
    | (go_at_call 27; (with_reducible refine (k3 _ _ (blk_new _ _)).mono ?_); rintro e w5 ⟨rfl, hb⟩; have b5 : Below w4.heap.size w4 w5 := (ba w4 _).trans (hb.mono (ba w4 _).size); have hP5 := hP4.below b5; have hT5 := blk_below hT4 b5; have hB5 := below_go hB4 hB4.size b5; clear hP4 hT4 hB4 hb b5 k3)
    | (go_at_call 16; refine (fi p bt bh t _ hP5 hT5).mono ?_; rintro e w6 ⟨rfl, hb6⟩; have hB6 := below_go hB5 hB5.size hb6))
  go_ret
  exact ⟨rfl, hB6⟩
end Go.Proofs.Ytgdnljhndjlefaa.QNeedFits
