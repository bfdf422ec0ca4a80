/- The fixed calls to a pool. No conditions beyond those that each theorem names. -/
import Derived.Test.YtgepalpcaphbeaaQPoolPlaysPoolList
namespace Go.Proofs.Ytgepalpcaphbeaa.QPoolPlays
open Go.RowKit Go.Proofs.Ytgepalpcaphbeaa.PPoolPlays Go.Proofs.YtgepalpcaphbeaaW.PrintWords Go.Proofs.YtgepalpcaphbeaaW.PrintLast Go.Proofs.YtgepalpcaphbeaaW.PrintMore Go.Proofs.Ytgepalpcaphbeaa.MMaps
set_option linter.unusedVariables false
set_option linter.unusedSimpArgs false
set_option maxRecDepth 100000
abbrev cpu : ByteArray := ⟨#[99, 112, 117]⟩
abbrev db : ByteArray := ⟨#[100, 98]⟩
theorem q1 : eqS cpu cpu = true := eqS_self _
theorem q2 : eqS db db = true := eqS_self _
theorem q3 : eqS cpu db = false := by unfold eqS; rw [toList_data, toList_data]; decide
theorem q4 : eqS db cpu = false := by unfold eqS; rw [toList_data, toList_data]; decide
abbrev j1 : Rj := ⟨cpu, 4, false⟩
abbrev j2 : Rj := ⟨db, 0, true⟩
abbrev R0 : List Rs := [⟨cpu, 4, false⟩, ⟨db, 0, true⟩]
theorem new0 : newR [j1, j2] = R0 := by
  simp [newR, addRs, findR, q3, asR, clampI, List.find?]
abbrev n1 : Nd := ⟨cpu, 3, 0⟩
abbrev n2 : Nd := ⟨db, 0, 1⟩
abbrev n3 : Nd := ⟨cpu, 2, 0⟩
abbrev n4 : Nd := ⟨db, 0, 2⟩
abbrev H1 : List Hd := [⟨1, cpu, 3, 0⟩, ⟨1, db, 0, 1⟩]
abbrev H2 : List Hd := [⟨2, cpu, 2, 0⟩]
theorem may1 : mayOf R0 [] 1 [n1, n2] = 0 := by
  simp [mayOf, rights, right1, findR, q1, q2, q3, q4, okNeed, busyOf, freeOf, unitsOf, sumBy, List.find?]
theorem take1 : takeOf R0 [] 1 [n1, n2] = H1 := by
  unfold takeOf
  rw [may1, if_pos rfl]
  simp [takes, heldAs, putH, ltH]
  decide
theorem may2 : mayOf R0 H1 2 [n3] = 32 := by
  simp [mayOf, rights, right1, findR, q1, q2, q3, q4, okNeed, busyOf, freeOf, unitsOf, sumBy, ofName, List.find?]
theorem may3 : mayOf R0 H1 3 [n4] = 32 := by
  simp [mayOf, rights, right1, findR, q1, q2, q3, q4, okNeed, busyOf, clash, List.find?]
theorem give1 : giveOf H1 1 = [] := by simp [giveOf]
theorem may4 : mayOf R0 [] 2 [n3] = 0 := by
  simp [mayOf, rights, right1, findR, q1, q2, q3, q4, okNeed, busyOf, freeOf, unitsOf, sumBy, ofName, List.find?]
theorem take4 : takeOf R0 [] 2 [n3] = H2 := by
  unfold takeOf
  rw [may4, if_pos rfl]
  simp [takes, heldAs, putH]
theorem free5 : freeOf R0 H2 cpu = (2, 0) := by
  simp [freeOf, unitsOf, findR, q1, sumBy, ofName, List.find?]
theorem take_as (p bt bh : Nat) (R : List Rs) (H M : List Hd) (o e0 : Int) (l : List Nd) (hw : ∀ n ∈ l, n.f0.size ≤ maxLen) (ho : (Lit.int .i64 o).wf = true) (hl : H.length + l.length ≤ 100) (he : mayOf R H o l = e0) (hM : takeOf R H o l = M) (g : Nat) (cs : Array Value) (w : World) (h : PoolAt w p bt bh R H) (hb : w.heap[g]? = some (.cells cs 61 (0, 0))) (hr : Reps (k61.K w) k61.sz l cs.toList) :
    Calls Try.prog 12 #[.pointer (some ⟨p, 0, none⟩), .int .i64 o, .slice (some ⟨g, 0, none⟩) l.length l.length] w fun e w' => e = .returned (.int .i64 e0) ∧ PoolAt w' p bt bh R M ∧ w.grownBy w' (some bh) := by
  subst he; subst hM
  exact Take.calls p bt bh R H o _ _ l w h (C_of_block k61 hb (by omega) hr) (Nat.le_refl _) hw ho (by omega) (fun _ => by omega)
theorem ta (p bt bh : Nat) (g : Nat) (w : World) (h : PoolAt w p bt bh R0 []) (hb : w.heap[g]? = some (.cells #[.string cpu, .int .i64 3, .int .i64 0, .string db, .int .i64 0, .int .i64 1] 61 (0, 0))) : Calls Try.prog 12 #[.pointer (some ⟨p, 0, none⟩), .int .i64 1, .slice (some ⟨g, 0, none⟩) 2 2] w fun e w' => e = .returned (.int .i64 0) ∧ PoolAt w' p bt bh R0 H1 ∧ w.grownBy w' (some bh) :=
  take_as p bt bh R0 [] H1 1 0 [n1, n2] (by decide) (by decide) (by decide) may1 take1 g _ w h hb (((Reps.none _ _).snoc (k61_mk w n1) rfl).snoc (k61_mk w n2) rfl)
theorem take2 : takeOf R0 H1 2 [n3] = H1 := by unfold takeOf; rw [may2]; rfl
theorem take3 : takeOf R0 H1 3 [n4] = H1 := by unfold takeOf; rw [may3]; rfl
theorem tb (p bt bh : Nat) (g : Nat) (w : World) (h : PoolAt w p bt bh R0 H1) (hb : w.heap[g]? = some (.cells #[.string cpu, .int .i64 2, .int .i64 0] 61 (0, 0))) : Calls Try.prog 12 #[.pointer (some ⟨p, 0, none⟩), .int .i64 2, .slice (some ⟨g, 0, none⟩) 1 1] w fun e w' => e = .returned (.int .i64 32) ∧ PoolAt w' p bt bh R0 H1 ∧ w.grownBy w' (some bh) :=
  take_as p bt bh R0 H1 H1 2 32 [n3] (by decide) (by decide) (by decide) may2 take2 g _ w h hb ((Reps.none _ _).snoc (k61_mk w n3) rfl)
theorem tc (p bt bh : Nat) (g : Nat) (w : World) (h : PoolAt w p bt bh R0 H1) (hb : w.heap[g]? = some (.cells #[.string db, .int .i64 0, .int .i64 2] 61 (0, 0))) : Calls Try.prog 12 #[.pointer (some ⟨p, 0, none⟩), .int .i64 3, .slice (some ⟨g, 0, none⟩) 1 1] w fun e w' => e = .returned (.int .i64 32) ∧ PoolAt w' p bt bh R0 H1 ∧ w.grownBy w' (some bh) :=
  take_as p bt bh R0 H1 H1 3 32 [n4] (by decide) (by decide) (by decide) may3 take3 g _ w h hb ((Reps.none _ _).snoc (k61_mk w n4) rfl)
theorem td (p bt bh : Nat) (g : Nat) (w : World) (h : PoolAt w p bt bh R0 []) (hb : w.heap[g]? = some (.cells #[.string cpu, .int .i64 2, .int .i64 0] 61 (0, 0))) : Calls Try.prog 12 #[.pointer (some ⟨p, 0, none⟩), .int .i64 2, .slice (some ⟨g, 0, none⟩) 1 1] w fun e w' => e = .returned (.int .i64 0) ∧ PoolAt w' p bt bh R0 H2 ∧ w.grownBy w' (some bh) :=
  take_as p bt bh R0 [] H2 2 0 [n3] (by decide) (by decide) (by decide) may4 take4 g _ w h hb ((Reps.none _ _).snoc (k61_mk w n3) rfl)
theorem ga (p bt bh : Nat) (w : World) (h : PoolAt w p bt bh R0 H1) : Calls Try.prog 11 #[.pointer (some ⟨p, 0, none⟩), .int .i64 1] w fun e w' => e = .returned (.int .i64 2) ∧ PoolAt w' p bt bh R0 [] ∧ w.grownBy w' (some bh) := by
  have := Give.calls p bt bh R0 H1 1 w h
  rw [give1] at this
  exact this
theorem fa (p bt bh : Nat) (w : World) (h : PoolAt w p bt bh R0 H2) : Calls Try.prog 15 #[.pointer (some ⟨p, 0, none⟩), .string cpu] w fun e w' => e = .returned (.tuple #[.int .i64 2, .int .i64 0]) ∧ Below w.heap.size w w' := by
  have := Free.calls p bt bh R0 H2 cpu (by decide) w h
  rw [free5] at this
  exact this
theorem na (g : Nat) (w : World) (hb : w.heap[g]? = some (.cells #[.string cpu, .int .i64 4, .bool false, .string db, .int .i64 0, .bool true] 59 (0, 0))) : Calls Try.prog 9 #[.slice (some ⟨g, 0, none⟩) 2 2] w fun e w' => ∃ p bt bh, e = .returned (.pointer (some ⟨p, 0, none⟩)) ∧ w.heap.size ≤ p ∧ w.heap.size ≤ bt ∧ w.heap.size ≤ bh ∧ PoolAt w' p bt bh R0 [] ∧ Below w.heap.size w w' := by
  have := New.calls (some ⟨g, 0, none⟩) 2 [j1, j2] w (C_of_block k59 hb (by decide) (((Reps.none _ _).snoc (k59_mk w j1) rfl).snoc (k59_mk w j2) rfl)) (by decide) (by decide) (by decide)
  rw [new0] at this
  exact this
theorem la (p bt bh : Nat) (w : World) (h : PoolAt w p bt bh R0 H2) : Calls Try.prog 14 #[.pointer (some ⟨p, 0, none⟩)] w fun e w' => (∃ A c, e = .returned (.slice A 1 c)) ∧ Below w.heap.size w w' := by
  refine (List.calls p bt bh R0 H2 w h).mono ?_
  rintro e w' ⟨v, rfl, hR, hB⟩
  obtain ⟨A, c, rfl, _⟩ := Kd.R_reads hR
  exact ⟨⟨A, c, rfl⟩, hB⟩
set_option maxHeartbeats 8000000 in
theorem known.calls (w : World) : Calls Try.prog 8 #[] w fun e w' => e = .returned (.bool true) ∧ Below w.heap.size w w' := by
  have ba : ∀ (W : World) (o : Obj), Below W.heap.size W (W.alloc o) := fun W o => below_alloc (Below.refl _ _) _
  have hnew := fun (W : World) o (hb : (W.alloc o).heap[W.heap.size]? = _) => na W.heap.size (W.alloc o) hb
  have k1 := fun p bt bh (W : World) o (h : PoolAt W p bt bh R0 []) (hb : (W.alloc o).heap[W.heap.size]? = _) => ta p bt bh W.heap.size (W.alloc o) (h.below (ba W o)) hb
  have k2 := fun p bt bh (W : World) o (h : PoolAt W p bt bh R0 H1) (hb : (W.alloc o).heap[W.heap.size]? = _) => tb p bt bh W.heap.size (W.alloc o) (h.below (ba W o)) hb
  have k3 := fun p bt bh (W : World) o (h : PoolAt W p bt bh R0 H1) (hb : (W.alloc o).heap[W.heap.size]? = _) => tc p bt bh W.heap.size (W.alloc o) (h.below (ba W o)) hb
  have k4 := fun p bt bh (W : World) o (h : PoolAt W p bt bh R0 []) (hb : (W.alloc o).heap[W.heap.size]? = _) => td p bt bh W.heap.size (W.alloc o) (h.below (ba W o)) hb
  go_enter Try.func8, Try.ntmps8
  go_wp2_with (first
    | (go_at_call 9; refine (hnew _ _ (blk_new _ _)).mono ?_; rintro e w1 ⟨p, bt, bh, rfl, hp, hbt, hbh, hP1, hB⟩; have hB1 := (ba w _).trans (hB.mono (ba w _).size); have hwb : w.heap.size ≤ bh := Nat.le_trans (ba w _).size hbh; clear hnew hB hp hbt hbh)
    | (go_at_call 12; first
      | ((with_reducible refine (k1 p bt bh _ _ hP1 (blk_new _ _)).mono ?_); rintro e w2 ⟨rfl, hP2, hg⟩; have hB2 := (below_go hB1 hB1.size (ba w1 _)).trans (grown_below hg hwb (below_go hB1 hB1.size (ba w1 _)).size); clear hP1 hB1 hg k1)
      | ((with_reducible refine (k2 p bt bh _ _ hP2 (blk_new _ _)).mono ?_); rintro e w3 ⟨rfl, hP3, hg⟩; have hB3 := (below_go hB2 hB2.size (ba w2 _)).trans (grown_below hg hwb (below_go hB2 hB2.size (ba w2 _)).size); clear hP2 hB2 hg k2)
      | ((with_reducible refine (k3 p bt bh _ _ hP3 (blk_new _ _)).mono ?_); rintro e w4 ⟨rfl, hP4, hg⟩; have hB4 := (below_go hB3 hB3.size (ba w3 _)).trans (grown_below hg hwb (below_go hB3 hB3.size (ba w3 _)).size); clear hP3 hB3 hg k3)
      | ((with_reducible refine (k4 p bt bh _ _ hP5 (blk_new _ _)).mono ?_); rintro e w6 ⟨rfl, hP6, hg⟩; have hB6 := (below_go hB5 hB5.size (ba w5 _)).trans (grown_below hg hwb (below_go hB5 hB5.size (ba w5 _)).size); clear hP5 hB5 hg k4))
    | (go_at_call 11; refine (ga p bt bh _ hP4).mono ?_; rintro e w5 ⟨rfl, hP5, hg⟩; have hB5 := hB4.trans (grown_below hg hwb hB4.size); clear hP4 hB4 hg)
    | (go_at_call 15; refine (fa p bt bh _ hP6).mono ?_; rintro e w7 ⟨rfl, hb7⟩; have hP7 := hP6.below hb7; have hB7 := below_go hB6 hB6.size hb7; clear hP6 hB6 hb7)
    | (go_at_call 14; refine (la p bt bh _ hP7).mono ?_; rintro e w8 ⟨⟨A8, c8, rfl⟩, hb8⟩; have hB8 := below_go hB7 hB7.size hb8; clear hP7 hB7 hb8))
  go_ret
  exact ⟨rfl, hB8⟩
end Go.Proofs.Ytgepalpcaphbeaa.QPoolPlays
