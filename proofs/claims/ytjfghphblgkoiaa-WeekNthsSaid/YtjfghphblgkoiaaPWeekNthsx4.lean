/- This text holds, for Go functions of the given program, Lean functions with the same answers, and proofs that the machine's calls come to these answers; each theorem names its own conditions. It was laid by a program of this session. -/
import Derived.Test.YtjfghphblgkoiaaPWeekNthsx0
import Derived.Test.YtjfghphblgkoiaaPWeekNthsx1
import Derived.Test.YtjfghphblgkoiaaPWeekNthsx2
import Derived.Test.YtjfghphblgkoiaaPWeekNthsx3
namespace Go.Proofs.Ytjfghphblgkoiaa.PWeekNths
open Go.RowKit Go.Proofs.YtjfghphblgkoiaaW.PrintWords Go.Proofs.YtjfghphblgkoiaaW.PrintLast Go.Proofs.YtjfghphblgkoiaaW.PrintMore
attribute [local go_sem] max2_int min2_int max_two min_two max_three min_three max_four min_four   -- for this text's walks alone
set_option linter.unusedVariables false
set_option linter.unusedSimpArgs false

/-! ### week_Read: function 18 -/
section
attribute [local go_sem] World.iter
def week_Read.bad (a0 : ByteArray) (i : Int) : Prop := bt a0 i < 48 ∨ 57 < bt a0 i
instance (a0 : ByteArray) (i : Int) : Decidable (week_Read.bad a0 i) := inferInstanceAs (Decidable (bt a0 i < 48 ∨ 57 < bt a0 i))
def week_Read.two (a0 : ByteArray) (i : Int) : Int := (bt a0 i - 48) * 10 + (bt a0 (i + 1) - 48)
def week_Read.f (a0 : ByteArray) : Option (Int × Int) := if (a0.size : Int) = 5 then (if bt a0 2 = 58 then (if week_Read.bad a0 0 then some (0, 20) else if week_Read.bad a0 1 then some (0, 20) else if week_Read.bad a0 3 then some (0, 20) else if week_Read.bad a0 4 then some (0, 20) else if week_Read.two a0 0 > 23 then some (0, 6) else if week_Read.two a0 3 > 59 then some (0, 6) else some (week_Read.two a0 0 * 60 + week_Read.two a0 3, 0)) else some (0, 20)) else some (0, 20)
theorem week_Read.nx {W : World} {k : Nat} {s : ByteArray} {p : Nat} (hk : W.heap[k]? = some (.stringIter s p)) (h : p < s.size) {v q : Int} (hq : (p : Int) = q) (hv : ((s[p]'h).toNat : Int) = v) (h128 : v < 128) {W' : World} (hW : Go.World.iterAt W k s (p + 1) = W') (ty : TypeId) :
    (Instr.next (.pointer (some ⟨k, 0, none⟩)) true ty).run Try.prog W = .ok (.tuple #[.bool true, .int .i64 q, .int .i32 v]) W' := by
  rw [Go.Lib.run_next_ascii_at W k s p ty hk h (by omega), hq, hv, hW]
theorem week_Read.nxAny {W : World} {k : Nat} {s : ByteArray} {p : Nat} (hk : W.heap[k]? = some (.stringIter s p)) (h : p < s.size) {q : Int} (hq : (p : Int) = q) (ty : TypeId) :
    (Instr.next (.pointer (some ⟨k, 0, none⟩)) true ty).run Try.prog W = .ok (.tuple #[.bool true, .int .i64 q, .int .i32 (Utf8.decode s p).1]) (Go.World.iterAt W k s (p + (Utf8.decode s p).2)) := by
  rw [Go.Lib.run_next_any_at W k s p ty hk h, hq]
theorem week_Read.at_d (w : World) (c : Obj) (s : ByteArray) (p q : Nat) : (World.iterAt ((w.alloc c).alloc (.stringIter s p)) (w.heap.size + 1) s q) = (w.alloc c).alloc (.stringIter s q) := by
  simp only [World.iterAt, World.alloc]
  congr 1
  apply Array.ext'
  simp [Array.setIfInBounds, Array.toList_push]
theorem week_Read.hp (w : World) (c o : Obj) : ((w.alloc c).alloc o).heap[w.heap.size + 1]? = some o := by
  rw [show w.heap.size + 1 = (w.alloc c).heap.size by simp]
  exact Array.getElem?_push_size
theorem week_Read.bel {w W : World} (h : Below w.heap.size w W) (s : ByteArray) (q : Nat) {k : Nat} (hk : w.heap.size ≤ k) : Below w.heap.size w (World.iterAt W k s q) := Go.Lib.below_iterAt h hk s q
set_option maxHeartbeats 4000000 in
theorem week_Read.bad0 (a0 : ByteArray) (r1 r2 : Int) (w : World) (s5 : a0.size = 5) (h2 : bt a0 2 = 58)  (b : bt a0 0 < 48 ∨ 57 < bt a0 0) (h : some ((0 : Int), (20 : Int)) = some (r1, r2)) :
    Calls Try.prog 18 #[.string a0] w fun e w' => e = .returned (.tuple #[.int .i64 r1, .int .i64 r2]) ∧ Below w.heap.size w w' := by
  have hu := Try.underlying46
  have p5 : ((a0.size : Int) == 5) = true := beq_iff_eq.mpr (by omega)
  have p5' : ((a0.size : Int) != 5) = false := bne_eq_false_iff_eq.mpr (by omega)
  have x2 : ∀ h : 2 < a0.size, ((a0[2]'h).toNat : Int) = 58 := fun h => (bt_at a0 2 h).trans h2
  have x0 : ∀ h : 0 < a0.size, ((a0[0]'h).toNat : Int) = bt a0 0 := fun h => bt_at a0 0 h
  have n0 : ∀ c ty, (Instr.next (.pointer (some ⟨w.heap.size + 1, 0, none⟩)) true ty).run Try.prog ((w.alloc c).alloc (.stringIter a0 0)) = .ok (.tuple #[.bool true, .int .i64 0, .int .i32 (Utf8.decode a0 0).1]) (World.iterAt ((w.alloc c).alloc (.stringIter a0 0)) (w.heap.size + 1) a0 (0 + (Utf8.decode a0 0).2)) :=
    fun c ty => week_Read.nxAny (W := ((w.alloc c).alloc (.stringIter a0 0))) (s := a0) (p := 0) (week_Read.hp w c _) (by omega) rfl ty
  clear h2
  generalize bt a0 0 = v0 at *
  simp only [Option.some.injEq, Prod.mk.injEq] at h
  obtain ⟨rfl, rfl⟩ := h
  rcases b with b | b
  · have q1 : decide (v0 < 48) = true := decide_eq_true b
    clear b
    go_enter Try.func18, Try.ntmps18
    go_wp2
    refine wp_loop_rounds 6 ?_
    rw [rounds_succ]; go_wp2
    go_ret2
    exact ⟨rfl, by repeat (first | exact Below.refl _ _ | refine week_Read.bel ?_ _ _ (Nat.le_succ _) | apply below_alloc | apply pw_below_drewN | apply below_drew1)⟩
  · have q1 : decide (v0 < 48) = false := decide_eq_false (by omega)
    have q2 : decide (57 < v0) = true := decide_eq_true b
    clear b
    go_enter Try.func18, Try.ntmps18
    go_wp2
    refine wp_loop_rounds 6 ?_
    rw [rounds_succ]; go_wp2
    go_ret2
    exact ⟨rfl, by repeat (first | exact Below.refl _ _ | refine week_Read.bel ?_ _ _ (Nat.le_succ _) | apply below_alloc | apply pw_below_drewN | apply below_drew1)⟩
set_option maxHeartbeats 4000000 in
theorem week_Read.bad1 (a0 : ByteArray) (r1 r2 : Int) (w : World) (s5 : a0.size = 5) (h2 : bt a0 2 = 58) (g0 : 48 ≤ bt a0 0 ∧ bt a0 0 ≤ 57) (b : bt a0 1 < 48 ∨ 57 < bt a0 1) (h : some ((0 : Int), (20 : Int)) = some (r1, r2)) :
    Calls Try.prog 18 #[.string a0] w fun e w' => e = .returned (.tuple #[.int .i64 r1, .int .i64 r2]) ∧ Below w.heap.size w w' := by
  have hu := Try.underlying46
  have p5 : ((a0.size : Int) == 5) = true := beq_iff_eq.mpr (by omega)
  have p5' : ((a0.size : Int) != 5) = false := bne_eq_false_iff_eq.mpr (by omega)
  have x2 : ∀ h : 2 < a0.size, ((a0[2]'h).toNat : Int) = 58 := fun h => (bt_at a0 2 h).trans h2
  have x0 : ∀ h : 0 < a0.size, ((a0[0]'h).toNat : Int) = bt a0 0 := fun h => bt_at a0 0 h
  have x1 : ∀ h : 1 < a0.size, ((a0[1]'h).toNat : Int) = bt a0 1 := fun h => bt_at a0 1 h
  have n0 : ∀ c ty, (Instr.next (.pointer (some ⟨w.heap.size + 1, 0, none⟩)) true ty).run Try.prog ((w.alloc c).alloc (.stringIter a0 0)) = .ok (.tuple #[.bool true, .int .i64 0, .int .i32 (bt a0 0)]) ((w.alloc c).alloc (.stringIter a0 1)) :=
    fun c ty => week_Read.nx (p := 0) (week_Read.hp w c _) (by omega) rfl (x0 _) (by omega) (week_Read.at_d w c a0 0 1 ) ty
  have n1 : ∀ c ty, (Instr.next (.pointer (some ⟨w.heap.size + 1, 0, none⟩)) true ty).run Try.prog ((w.alloc c).alloc (.stringIter a0 1)).drew = .ok (.tuple #[.bool true, .int .i64 1, .int .i32 (Utf8.decode a0 1).1]) (World.iterAt ((w.alloc c).alloc (.stringIter a0 1)).drew (w.heap.size + 1) a0 (1 + (Utf8.decode a0 1).2)) :=
    fun c ty => week_Read.nxAny (W := ((w.alloc c).alloc (.stringIter a0 1)).drew) (s := a0) (p := 1) (week_Read.hp w c _) (by omega) rfl ty
  obtain ⟨g0a, g0b⟩ := g0
  clear h2
  generalize bt a0 0 = v0 at *
  generalize bt a0 1 = v1 at *
  simp only [Option.some.injEq, Prod.mk.injEq] at h
  obtain ⟨rfl, rfl⟩ := h
  rcases b with b | b
  · have q1 : decide (v1 < 48) = true := decide_eq_true b
    clear b
    go_enter Try.func18, Try.ntmps18
    go_wp2
    refine wp_loop_rounds 6 ?_
    rw [rounds_succ]; go_wp2
    go_region
    go_wp2
    rw [rounds_succ]; go_wp2
    go_ret2
    exact ⟨rfl, by repeat (first | exact Below.refl _ _ | refine week_Read.bel ?_ _ _ (Nat.le_succ _) | apply below_alloc | apply pw_below_drewN | apply below_drew1)⟩
  · have q1 : decide (v1 < 48) = false := decide_eq_false (by omega)
    have q2 : decide (57 < v1) = true := decide_eq_true b
    clear b
    go_enter Try.func18, Try.ntmps18
    go_wp2
    refine wp_loop_rounds 6 ?_
    rw [rounds_succ]; go_wp2
    go_region
    go_wp2
    rw [rounds_succ]; go_wp2
    go_ret2
    exact ⟨rfl, by repeat (first | exact Below.refl _ _ | refine week_Read.bel ?_ _ _ (Nat.le_succ _) | apply below_alloc | apply pw_below_drewN | apply below_drew1)⟩
set_option maxHeartbeats 4000000 in
theorem week_Read.bad3 (a0 : ByteArray) (r1 r2 : Int) (w : World) (s5 : a0.size = 5) (h2 : bt a0 2 = 58) (g0 : 48 ≤ bt a0 0 ∧ bt a0 0 ≤ 57) (g1 : 48 ≤ bt a0 1 ∧ bt a0 1 ≤ 57) (b : bt a0 3 < 48 ∨ 57 < bt a0 3) (h : some ((0 : Int), (20 : Int)) = some (r1, r2)) :
    Calls Try.prog 18 #[.string a0] w fun e w' => e = .returned (.tuple #[.int .i64 r1, .int .i64 r2]) ∧ Below w.heap.size w w' := by
  have hu := Try.underlying46
  have p5 : ((a0.size : Int) == 5) = true := beq_iff_eq.mpr (by omega)
  have p5' : ((a0.size : Int) != 5) = false := bne_eq_false_iff_eq.mpr (by omega)
  have x2 : ∀ h : 2 < a0.size, ((a0[2]'h).toNat : Int) = 58 := fun h => (bt_at a0 2 h).trans h2
  have x0 : ∀ h : 0 < a0.size, ((a0[0]'h).toNat : Int) = bt a0 0 := fun h => bt_at a0 0 h
  have x1 : ∀ h : 1 < a0.size, ((a0[1]'h).toNat : Int) = bt a0 1 := fun h => bt_at a0 1 h
  have x3 : ∀ h : 3 < a0.size, ((a0[3]'h).toNat : Int) = bt a0 3 := fun h => bt_at a0 3 h
  have n0 : ∀ c ty, (Instr.next (.pointer (some ⟨w.heap.size + 1, 0, none⟩)) true ty).run Try.prog ((w.alloc c).alloc (.stringIter a0 0)) = .ok (.tuple #[.bool true, .int .i64 0, .int .i32 (bt a0 0)]) ((w.alloc c).alloc (.stringIter a0 1)) :=
    fun c ty => week_Read.nx (p := 0) (week_Read.hp w c _) (by omega) rfl (x0 _) (by omega) (week_Read.at_d w c a0 0 1 ) ty
  have n1 : ∀ c ty, (Instr.next (.pointer (some ⟨w.heap.size + 1, 0, none⟩)) true ty).run Try.prog ((w.alloc c).alloc (.stringIter a0 1)).drew = .ok (.tuple #[.bool true, .int .i64 1, .int .i32 (bt a0 1)]) ((w.alloc c).alloc (.stringIter a0 2)).drew :=
    fun c ty => week_Read.nx (W := ((w.alloc c).alloc (.stringIter a0 1)).drew) (s := a0) (p := 1) (week_Read.hp w c _) (by omega) rfl (x1 _) (by omega) (congrArg (fun W : World => W.drew) (week_Read.at_d w c a0 1 2)) ty
  have n2 : ∀ c ty, (Instr.next (.pointer (some ⟨w.heap.size + 1, 0, none⟩)) true ty).run Try.prog ((w.alloc c).alloc (.stringIter a0 2)).drew.drew = .ok (.tuple #[.bool true, .int .i64 2, .int .i32 58]) ((w.alloc c).alloc (.stringIter a0 3)).drew.drew :=
    fun c ty => week_Read.nx (W := ((w.alloc c).alloc (.stringIter a0 2)).drew.drew) (s := a0) (p := 2) (week_Read.hp w c _) (by omega) rfl (x2 _) (by omega) (congrArg (fun W : World => W.drew.drew) (week_Read.at_d w c a0 2 3)) ty
  have n3 : ∀ c ty, (Instr.next (.pointer (some ⟨w.heap.size + 1, 0, none⟩)) true ty).run Try.prog ((w.alloc c).alloc (.stringIter a0 3)).drew.drew = .ok (.tuple #[.bool true, .int .i64 3, .int .i32 (Utf8.decode a0 3).1]) (World.iterAt ((w.alloc c).alloc (.stringIter a0 3)).drew.drew (w.heap.size + 1) a0 (3 + (Utf8.decode a0 3).2)) :=
    fun c ty => week_Read.nxAny (W := ((w.alloc c).alloc (.stringIter a0 3)).drew.drew) (s := a0) (p := 3) (week_Read.hp w c _) (by omega) rfl ty
  obtain ⟨g0a, g0b⟩ := g0
  obtain ⟨g1a, g1b⟩ := g1
  clear h2
  generalize bt a0 0 = v0 at *
  generalize bt a0 1 = v1 at *
  generalize bt a0 3 = v3 at *
  simp only [Option.some.injEq, Prod.mk.injEq] at h
  obtain ⟨rfl, rfl⟩ := h
  rcases b with b | b
  · have q1 : decide (v3 < 48) = true := decide_eq_true b
    clear b
    go_enter Try.func18, Try.ntmps18
    go_wp2
    refine wp_loop_rounds 6 ?_
    rw [rounds_succ]; go_wp2
    go_region
    go_wp2
    rw [rounds_succ]; go_wp2
    go_region
    go_wp2
    rw [rounds_succ]; go_wp2
    rw [rounds_succ]; go_wp2
    go_ret2
    exact ⟨rfl, by repeat (first | exact Below.refl _ _ | refine week_Read.bel ?_ _ _ (Nat.le_succ _) | apply below_alloc | apply pw_below_drewN | apply below_drew1)⟩
  · have q1 : decide (v3 < 48) = false := decide_eq_false (by omega)
    have q2 : decide (57 < v3) = true := decide_eq_true b
    clear b
    go_enter Try.func18, Try.ntmps18
    go_wp2
    refine wp_loop_rounds 6 ?_
    rw [rounds_succ]; go_wp2
    go_region
    go_wp2
    rw [rounds_succ]; go_wp2
    go_region
    go_wp2
    rw [rounds_succ]; go_wp2
    rw [rounds_succ]; go_wp2
    go_ret2
    exact ⟨rfl, by repeat (first | exact Below.refl _ _ | refine week_Read.bel ?_ _ _ (Nat.le_succ _) | apply below_alloc | apply pw_below_drewN | apply below_drew1)⟩
set_option maxHeartbeats 4000000 in
theorem week_Read.bad4 (a0 : ByteArray) (r1 r2 : Int) (w : World) (s5 : a0.size = 5) (h2 : bt a0 2 = 58) (g0 : 48 ≤ bt a0 0 ∧ bt a0 0 ≤ 57) (g1 : 48 ≤ bt a0 1 ∧ bt a0 1 ≤ 57) (g3 : 48 ≤ bt a0 3 ∧ bt a0 3 ≤ 57) (b : bt a0 4 < 48 ∨ 57 < bt a0 4) (h : some ((0 : Int), (20 : Int)) = some (r1, r2)) :
    Calls Try.prog 18 #[.string a0] w fun e w' => e = .returned (.tuple #[.int .i64 r1, .int .i64 r2]) ∧ Below w.heap.size w w' := by
  have hu := Try.underlying46
  have p5 : ((a0.size : Int) == 5) = true := beq_iff_eq.mpr (by omega)
  have p5' : ((a0.size : Int) != 5) = false := bne_eq_false_iff_eq.mpr (by omega)
  have x2 : ∀ h : 2 < a0.size, ((a0[2]'h).toNat : Int) = 58 := fun h => (bt_at a0 2 h).trans h2
  have x0 : ∀ h : 0 < a0.size, ((a0[0]'h).toNat : Int) = bt a0 0 := fun h => bt_at a0 0 h
  have x1 : ∀ h : 1 < a0.size, ((a0[1]'h).toNat : Int) = bt a0 1 := fun h => bt_at a0 1 h
  have x3 : ∀ h : 3 < a0.size, ((a0[3]'h).toNat : Int) = bt a0 3 := fun h => bt_at a0 3 h
  have x4 : ∀ h : 4 < a0.size, ((a0[4]'h).toNat : Int) = bt a0 4 := fun h => bt_at a0 4 h
  have n0 : ∀ c ty, (Instr.next (.pointer (some ⟨w.heap.size + 1, 0, none⟩)) true ty).run Try.prog ((w.alloc c).alloc (.stringIter a0 0)) = .ok (.tuple #[.bool true, .int .i64 0, .int .i32 (bt a0 0)]) ((w.alloc c).alloc (.stringIter a0 1)) :=
    fun c ty => week_Read.nx (p := 0) (week_Read.hp w c _) (by omega) rfl (x0 _) (by omega) (week_Read.at_d w c a0 0 1 ) ty
  have n1 : ∀ c ty, (Instr.next (.pointer (some ⟨w.heap.size + 1, 0, none⟩)) true ty).run Try.prog ((w.alloc c).alloc (.stringIter a0 1)).drew = .ok (.tuple #[.bool true, .int .i64 1, .int .i32 (bt a0 1)]) ((w.alloc c).alloc (.stringIter a0 2)).drew :=
    fun c ty => week_Read.nx (W := ((w.alloc c).alloc (.stringIter a0 1)).drew) (s := a0) (p := 1) (week_Read.hp w c _) (by omega) rfl (x1 _) (by omega) (congrArg (fun W : World => W.drew) (week_Read.at_d w c a0 1 2)) ty
  have n2 : ∀ c ty, (Instr.next (.pointer (some ⟨w.heap.size + 1, 0, none⟩)) true ty).run Try.prog ((w.alloc c).alloc (.stringIter a0 2)).drew.drew = .ok (.tuple #[.bool true, .int .i64 2, .int .i32 58]) ((w.alloc c).alloc (.stringIter a0 3)).drew.drew :=
    fun c ty => week_Read.nx (W := ((w.alloc c).alloc (.stringIter a0 2)).drew.drew) (s := a0) (p := 2) (week_Read.hp w c _) (by omega) rfl (x2 _) (by omega) (congrArg (fun W : World => W.drew.drew) (week_Read.at_d w c a0 2 3)) ty
  have n3 : ∀ c ty, (Instr.next (.pointer (some ⟨w.heap.size + 1, 0, none⟩)) true ty).run Try.prog ((w.alloc c).alloc (.stringIter a0 3)).drew.drew = .ok (.tuple #[.bool true, .int .i64 3, .int .i32 (bt a0 3)]) ((w.alloc c).alloc (.stringIter a0 4)).drew.drew :=
    fun c ty => week_Read.nx (W := ((w.alloc c).alloc (.stringIter a0 3)).drew.drew) (s := a0) (p := 3) (week_Read.hp w c _) (by omega) rfl (x3 _) (by omega) (congrArg (fun W : World => W.drew.drew) (week_Read.at_d w c a0 3 4)) ty
  have n4 : ∀ c ty, (Instr.next (.pointer (some ⟨w.heap.size + 1, 0, none⟩)) true ty).run Try.prog ((w.alloc c).alloc (.stringIter a0 4)).drew.drew.drew = .ok (.tuple #[.bool true, .int .i64 4, .int .i32 (Utf8.decode a0 4).1]) (World.iterAt ((w.alloc c).alloc (.stringIter a0 4)).drew.drew.drew (w.heap.size + 1) a0 (4 + (Utf8.decode a0 4).2)) :=
    fun c ty => week_Read.nxAny (W := ((w.alloc c).alloc (.stringIter a0 4)).drew.drew.drew) (s := a0) (p := 4) (week_Read.hp w c _) (by omega) rfl ty
  obtain ⟨g0a, g0b⟩ := g0
  obtain ⟨g1a, g1b⟩ := g1
  obtain ⟨g3a, g3b⟩ := g3
  clear h2
  generalize bt a0 0 = v0 at *
  generalize bt a0 1 = v1 at *
  generalize bt a0 3 = v3 at *
  generalize bt a0 4 = v4 at *
  simp only [Option.some.injEq, Prod.mk.injEq] at h
  obtain ⟨rfl, rfl⟩ := h
  rcases b with b | b
  · have q1 : decide (v4 < 48) = true := decide_eq_true b
    clear b
    go_enter Try.func18, Try.ntmps18
    go_wp2
    refine wp_loop_rounds 6 ?_
    rw [rounds_succ]; go_wp2
    go_region
    go_wp2
    rw [rounds_succ]; go_wp2
    go_region
    go_wp2
    rw [rounds_succ]; go_wp2
    rw [rounds_succ]; go_wp2
    go_region
    go_wp2
    rw [rounds_succ]; go_wp2
    go_ret2
    exact ⟨rfl, by repeat (first | exact Below.refl _ _ | refine week_Read.bel ?_ _ _ (Nat.le_succ _) | apply below_alloc | apply pw_below_drewN | apply below_drew1)⟩
  · have q1 : decide (v4 < 48) = false := decide_eq_false (by omega)
    have q2 : decide (57 < v4) = true := decide_eq_true b
    clear b
    go_enter Try.func18, Try.ntmps18
    go_wp2
    refine wp_loop_rounds 6 ?_
    rw [rounds_succ]; go_wp2
    go_region
    go_wp2
    rw [rounds_succ]; go_wp2
    go_region
    go_wp2
    rw [rounds_succ]; go_wp2
    rw [rounds_succ]; go_wp2
    go_region
    go_wp2
    rw [rounds_succ]; go_wp2
    go_ret2
    exact ⟨rfl, by repeat (first | exact Below.refl _ _ | refine week_Read.bel ?_ _ _ (Nat.le_succ _) | apply below_alloc | apply pw_below_drewN | apply below_drew1)⟩
set_option maxHeartbeats 4000000 in
theorem week_Read.good (a0 : ByteArray) (r1 r2 : Int) (w : World) (s5 : a0.size = 5) (h2 : bt a0 2 = 58) (g0 : 48 ≤ bt a0 0 ∧ bt a0 0 ≤ 57) (g1 : 48 ≤ bt a0 1 ∧ bt a0 1 ≤ 57) (g3 : 48 ≤ bt a0 3 ∧ bt a0 3 ≤ 57) (g4 : 48 ≤ bt a0 4 ∧ bt a0 4 ≤ 57) (h : (if week_Read.two a0 0 > 23 then some (0, 6) else if week_Read.two a0 3 > 59 then some (0, 6) else some (week_Read.two a0 0 * 60 + week_Read.two a0 3, 0)) = some (r1, r2)) :
    Calls Try.prog 18 #[.string a0] w fun e w' => e = .returned (.tuple #[.int .i64 r1, .int .i64 r2]) ∧ Below w.heap.size w w' := by
  have hu := Try.underlying46
  have p5 : ((a0.size : Int) == 5) = true := beq_iff_eq.mpr (by omega)
  have p5' : ((a0.size : Int) != 5) = false := bne_eq_false_iff_eq.mpr (by omega)
  have x2 : ∀ h : 2 < a0.size, ((a0[2]'h).toNat : Int) = 58 := fun h => (bt_at a0 2 h).trans h2
  have x0 : ∀ h : 0 < a0.size, ((a0[0]'h).toNat : Int) = bt a0 0 := fun h => bt_at a0 0 h
  have x1 : ∀ h : 1 < a0.size, ((a0[1]'h).toNat : Int) = bt a0 1 := fun h => bt_at a0 1 h
  have x3 : ∀ h : 3 < a0.size, ((a0[3]'h).toNat : Int) = bt a0 3 := fun h => bt_at a0 3 h
  have x4 : ∀ h : 4 < a0.size, ((a0[4]'h).toNat : Int) = bt a0 4 := fun h => bt_at a0 4 h
  have n0 : ∀ c ty, (Instr.next (.pointer (some ⟨w.heap.size + 1, 0, none⟩)) true ty).run Try.prog ((w.alloc c).alloc (.stringIter a0 0)) = .ok (.tuple #[.bool true, .int .i64 0, .int .i32 (bt a0 0)]) ((w.alloc c).alloc (.stringIter a0 1)) :=
    fun c ty => week_Read.nx (p := 0) (week_Read.hp w c _) (by omega) rfl (x0 _) (by omega) (week_Read.at_d w c a0 0 1 ) ty
  have n1 : ∀ c ty, (Instr.next (.pointer (some ⟨w.heap.size + 1, 0, none⟩)) true ty).run Try.prog ((w.alloc c).alloc (.stringIter a0 1)).drew = .ok (.tuple #[.bool true, .int .i64 1, .int .i32 (bt a0 1)]) ((w.alloc c).alloc (.stringIter a0 2)).drew :=
    fun c ty => week_Read.nx (W := ((w.alloc c).alloc (.stringIter a0 1)).drew) (s := a0) (p := 1) (week_Read.hp w c _) (by omega) rfl (x1 _) (by omega) (congrArg (fun W : World => W.drew) (week_Read.at_d w c a0 1 2)) ty
  have n2 : ∀ c ty, (Instr.next (.pointer (some ⟨w.heap.size + 1, 0, none⟩)) true ty).run Try.prog ((w.alloc c).alloc (.stringIter a0 2)).drew.drew = .ok (.tuple #[.bool true, .int .i64 2, .int .i32 58]) ((w.alloc c).alloc (.stringIter a0 3)).drew.drew :=
    fun c ty => week_Read.nx (W := ((w.alloc c).alloc (.stringIter a0 2)).drew.drew) (s := a0) (p := 2) (week_Read.hp w c _) (by omega) rfl (x2 _) (by omega) (congrArg (fun W : World => W.drew.drew) (week_Read.at_d w c a0 2 3)) ty
  have n3 : ∀ c ty, (Instr.next (.pointer (some ⟨w.heap.size + 1, 0, none⟩)) true ty).run Try.prog ((w.alloc c).alloc (.stringIter a0 3)).drew.drew = .ok (.tuple #[.bool true, .int .i64 3, .int .i32 (bt a0 3)]) ((w.alloc c).alloc (.stringIter a0 4)).drew.drew :=
    fun c ty => week_Read.nx (W := ((w.alloc c).alloc (.stringIter a0 3)).drew.drew) (s := a0) (p := 3) (week_Read.hp w c _) (by omega) rfl (x3 _) (by omega) (congrArg (fun W : World => W.drew.drew) (week_Read.at_d w c a0 3 4)) ty
  have n4 : ∀ c ty, (Instr.next (.pointer (some ⟨w.heap.size + 1, 0, none⟩)) true ty).run Try.prog ((w.alloc c).alloc (.stringIter a0 4)).drew.drew.drew = .ok (.tuple #[.bool true, .int .i64 4, .int .i32 (bt a0 4)]) ((w.alloc c).alloc (.stringIter a0 5)).drew.drew.drew :=
    fun c ty => week_Read.nx (W := ((w.alloc c).alloc (.stringIter a0 4)).drew.drew.drew) (s := a0) (p := 4) (week_Read.hp w c _) (by omega) rfl (x4 _) (by omega) (congrArg (fun W : World => W.drew.drew.drew) (week_Read.at_d w c a0 4 5)) ty
  have n5 : ∀ c ty, (Instr.next (.pointer (some ⟨w.heap.size + 1, 0, none⟩)) true ty).run Try.prog ((w.alloc c).alloc (.stringIter a0 5)).drew.drew.drew.drew = .ok (.tuple #[.bool false]) ((w.alloc c).alloc (.stringIter a0 5)).drew.drew.drew.drew :=
    fun c ty => Go.Lib.run_next_end_at _ _ a0 5 ty (week_Read.hp w c _) (by omega)
  obtain ⟨g0a, g0b⟩ := g0
  obtain ⟨g1a, g1b⟩ := g1
  obtain ⟨g3a, g3b⟩ := g3
  obtain ⟨g4a, g4b⟩ := g4
  simp only [week_Read.two, show (0 : Int) + 1 = 1 from rfl, show (3 : Int) + 1 = 4 from rfl] at h
  clear h2
  generalize bt a0 0 = v0 at *
  generalize bt a0 1 = v1 at *
  generalize bt a0 3 = v3 at *
  generalize bt a0 4 = v4 at *
  by_cases c1 : (v0 - 48) * 10 + (v1 - 48) > 23
  · rw [if_pos c1] at h
    simp only [Option.some.injEq, Prod.mk.injEq] at h
    obtain ⟨rfl, rfl⟩ := h
    have q1 : decide (23 < (v0 - 48) * 10 + (v1 - 48)) = true := decide_eq_true c1
    clear c1
    go_enter Try.func18, Try.ntmps18
    go_wp2
    refine wp_loop_rounds 6 ?_
    rw [rounds_succ]; go_wp2
    go_region
    go_wp2
    rw [rounds_succ]; go_wp2
    go_region
    go_wp2
    rw [rounds_succ]; go_wp2
    rw [rounds_succ]; go_wp2
    go_region
    go_wp2
    rw [rounds_succ]; go_wp2
    go_region
    go_wp2
    rw [rounds_succ]; go_wp2
    go_ret2
    exact ⟨rfl, by repeat (first | exact Below.refl _ _ | refine week_Read.bel ?_ _ _ (Nat.le_succ _) | apply below_alloc | apply pw_below_drewN | apply below_drew1)⟩
  rw [if_neg c1] at h
  have q1 : decide (23 < (v0 - 48) * 10 + (v1 - 48)) = false := decide_eq_false c1
  clear c1
  by_cases c2 : (v3 - 48) * 10 + (v4 - 48) > 59
  · rw [if_pos c2] at h
    simp only [Option.some.injEq, Prod.mk.injEq] at h
    obtain ⟨rfl, rfl⟩ := h
    have q2 : decide (59 < (v3 - 48) * 10 + (v4 - 48)) = true := decide_eq_true c2
    clear c2
    go_enter Try.func18, Try.ntmps18
    go_wp2
    refine wp_loop_rounds 6 ?_
    rw [rounds_succ]; go_wp2
    go_region
    go_wp2
    rw [rounds_succ]; go_wp2
    go_region
    go_wp2
    rw [rounds_succ]; go_wp2
    rw [rounds_succ]; go_wp2
    go_region
    go_wp2
    rw [rounds_succ]; go_wp2
    go_region
    go_wp2
    rw [rounds_succ]; go_wp2
    go_ret2
    exact ⟨rfl, by repeat (first | exact Below.refl _ _ | refine week_Read.bel ?_ _ _ (Nat.le_succ _) | apply below_alloc | apply pw_below_drewN | apply below_drew1)⟩
  rw [if_neg c2] at h
  simp only [Option.some.injEq, Prod.mk.injEq] at h
  obtain ⟨rfl, rfl⟩ := h
  have q2 : decide (59 < (v3 - 48) * 10 + (v4 - 48)) = false := decide_eq_false c2
  clear c2
  go_enter Try.func18, Try.ntmps18
  go_wp2
  refine wp_loop_rounds 6 ?_
  rw [rounds_succ]; go_wp2
  go_region
  go_wp2
  rw [rounds_succ]; go_wp2
  go_region
  go_wp2
  rw [rounds_succ]; go_wp2
  rw [rounds_succ]; go_wp2
  go_region
  go_wp2
  rw [rounds_succ]; go_wp2
  go_region
  go_wp2
  rw [rounds_succ]; go_wp2
  go_ret2
  exact ⟨rfl, by repeat (first | exact Below.refl _ _ | refine week_Read.bel ?_ _ _ (Nat.le_succ _) | apply below_alloc | apply pw_below_drewN | apply below_drew1)⟩
set_option maxHeartbeats 4000000 in
theorem week_Read.calls (a0 : ByteArray) (r1 : Int) (r2 : Int) (w : World) (h : week_Read.f a0 = some (r1, r2)) :
    Calls Try.prog 18 #[.string a0] w fun e w' => e = .returned (.tuple #[.int .i64 r1, .int .i64 r2]) ∧ Below w.heap.size w w' := by
  unfold week_Read.f at h
  by_cases c5 : (a0.size : Int) = 5
  · rw [if_pos c5] at h
    have s5 : a0.size = 5 := by omega
    by_cases c2 : bt a0 2 = 58
    · rw [if_pos c2] at h
      by_cases b0 : week_Read.bad a0 0
      · rw [if_pos b0] at h
        exact week_Read.bad0 a0 r1 r2 w s5 c2 b0 h
      rw [if_neg b0] at h
      have g0 : 48 ≤ bt a0 0 ∧ bt a0 0 ≤ 57 := by unfold week_Read.bad at b0; omega
      by_cases b1 : week_Read.bad a0 1
      · rw [if_pos b1] at h
        exact week_Read.bad1 a0 r1 r2 w s5 c2 g0 b1 h
      rw [if_neg b1] at h
      have g1 : 48 ≤ bt a0 1 ∧ bt a0 1 ≤ 57 := by unfold week_Read.bad at b1; omega
      by_cases b3 : week_Read.bad a0 3
      · rw [if_pos b3] at h
        exact week_Read.bad3 a0 r1 r2 w s5 c2 g0 g1 b3 h
      rw [if_neg b3] at h
      have g3 : 48 ≤ bt a0 3 ∧ bt a0 3 ≤ 57 := by unfold week_Read.bad at b3; omega
      by_cases b4 : week_Read.bad a0 4
      · rw [if_pos b4] at h
        exact week_Read.bad4 a0 r1 r2 w s5 c2 g0 g1 g3 b4 h
      rw [if_neg b4] at h
      have g4 : 48 ≤ bt a0 4 ∧ bt a0 4 ≤ 57 := by unfold week_Read.bad at b4; omega
      exact week_Read.good a0 r1 r2 w s5 c2 g0 g1 g3 g4 h
    · rw [if_neg c2] at h
      simp only [Option.some.injEq, Prod.mk.injEq] at h
      obtain ⟨rfl, rfl⟩ := h
      have p5 : ((a0.size : Int) == 5) = true := beq_iff_eq.mpr c5
      have p5' : ((a0.size : Int) != 5) = false := bne_eq_false_iff_eq.mpr c5
      have x2 : ∀ h : 2 < a0.size, ((a0[2]'h).toNat : Int) = bt a0 2 := fun h => bt_at a0 2 h
      have q2 : (bt a0 2 == 58) = false := beq_eq_false_iff_ne.mpr c2
      have q3 : (bt a0 2 != 58) = true := bne_iff_ne.mpr c2
      clear c5 c2
      generalize bt a0 2 = v2 at *
      go_enter Try.func18, Try.ntmps18
      go_wp2
      go_ret2
      exact ⟨rfl, Below.refl _ _⟩
  · rw [if_neg c5] at h
    simp only [Option.some.injEq, Prod.mk.injEq] at h
    obtain ⟨rfl, rfl⟩ := h
    have p5 : ((a0.size : Int) == 5) = false := beq_eq_false_iff_ne.mpr c5
    have p5' : ((a0.size : Int) != 5) = true := bne_iff_ne.mpr c5
    clear c5
    go_enter Try.func18, Try.ntmps18
    go_wp2
    go_ret2
    exact ⟨rfl, Below.refl _ _⟩
end

/-! ### dayshiftlaw02_day: function 35 -/
def dayshiftlaw02_day.f (k : Nat) (a0 : Int) (a1 : Int) (a2 : Int) : Option (Int) := (dayshiftref01_Days.f k a0 a1 a2).bind fun bt147 => (some bt147.1)
theorem dayshiftlaw02_day.mono : ∀ a0 a1 a2 k, LeO (dayshiftlaw02_day.f k a0 a1 a2) (dayshiftlaw02_day.f (k + 1) a0 a1 a2) := by
  intro a0 a1 a2 k
  unfold dayshiftlaw02_day.f
  repeat' first
      | (with_reducible exact dayshiftref01_Days.mono _ _ _ _)
      | (with_reducible exact LeO.refl _)
      | (with_reducible exact LeO.none _)
      | (with_reducible refine LeO.ite ?_ ?_)
      | (with_reducible refine LeO.bind ?_ (fun _ => ?_))
      | exact dayshiftref01_Days.mono _ _ _ _
      | exact LeO.none _
      | refine LeO.ite ?_ ?_
      | refine LeO.bind ?_ (fun _ => ?_)
set_option maxHeartbeats 8000000 in
set_option maxRecDepth 100000 in
theorem dayshiftlaw02_day.calls (k : Nat) (a0 : Int) (a1 : Int) (a2 : Int) (r : Int) (w : World) (h : dayshiftlaw02_day.f k a0 a1 a2 = some r) :
    Calls Try.prog 35 #[.int .i64 a0, .int .i64 a1, .int .i64 a2] w fun e w' => e = .returned (.int .i64 r) ∧ Drawn0 w w' := by
  have H : ((dayshiftref01_Days.f k a0 a1 a2).bind fun bt147 => (some bt147.1)) = some r := h
  clear h
  replace H := Option.bind_eq_some_iff.mp H
  obtain ⟨⟨t147, t148⟩, A40, H⟩ := H
  replace H : (some t147) = some r := H
  have A4 := Aside0.mk A40
  clear A40
  obtain rfl := Option.some.inj H
  go_enter Try.func35, Try.ntmps35
  go_wp2_with (first | ((with_reducible refine gate_callee (f := 33) rfl ?_); refine goesL_ (some 13) rfl rfl Try.func33 (by kernel_rfl) rfl #[.int .i64 a0, .int .i64 a1, .int .i64 a2] rfl (by (try simp only [List.map_toArray, List.map_cons, List.map_nil]); first | done | rfl | (simp only [List.length_drop, List.length_take]; rfl)) ?_; (with_reducible refine (dayshiftref01_Days.calls k a0 a1 a2 t147 t148 _ A4.out).mono ?_); rintro e w' ⟨rfl, ⟨nd, rfl⟩⟩; refine ⟨_, rfl, ?_⟩))
  go_ret
  exact ⟨by first | rfl | (simp; done) | (simp [*]; done), by repeat (first | exact Drawn0.refl _ | apply Drawn0.step)⟩

/-! ### dayshiftlaw02_known: function 12 -/
def dayshiftlaw02_known.f (k : Nat)  : Option (Bool) := (dayshiftlaw02_day.f k 2018 12 31).bind fun t149 => ((week_Week.f k t149).bind fun bt150 => ((week_Nth.f k 2024 2 3 (-1)).bind fun bt153 => ((week_Order.f 7439 240).bind fun bt155 => ((week_Order.f 7440 240).bind fun bt157 => ((week_Read.f (⟨#[50, 51, 58, 53, 57]⟩ : ByteArray)).bind fun bt159 => (if bt150.1 = 2019 then (if bt150.2.1 = 1 then (if bt150.2.2 = 0 then ((dayshiftlaw02_day.f k 2024 2 29).bind fun t161 => (if bt153.1 = t161 then (if bt153.2 = 0 then (if bt155.1 = 4 then (if bt155.2 = 0 then (if bt157.1 = 5 then (if bt157.2 = 0 then (if bt159.1 = 1439 then (some (bt159.2 == 0)) else (some false)) else (some false)) else (some false)) else (some false)) else (some false)) else (some false)) else (some false))) else (some false)) else (some false)) else (some false)))))))
theorem dayshiftlaw02_known.mono : ∀ k, LeO (dayshiftlaw02_known.f k ) (dayshiftlaw02_known.f (k + 1) ) := by
  intro  k
  unfold dayshiftlaw02_known.f
  repeat' first
      | (with_reducible exact dayshiftlaw02_day.mono _ _ _ _)
      | (with_reducible exact week_Nth.mono _ _ _ _ _)
      | (with_reducible exact week_Week.mono _ _)
      | (with_reducible exact LeO.refl _)
      | (with_reducible exact LeO.none _)
      | (with_reducible refine LeO.ite ?_ ?_)
      | (with_reducible refine LeO.bind ?_ (fun _ => ?_))
      | exact dayshiftlaw02_day.mono _ _ _ _
      | exact week_Nth.mono _ _ _ _ _
      | exact week_Week.mono _ _
      | exact LeO.none _
      | refine LeO.ite ?_ ?_
      | refine LeO.bind ?_ (fun _ => ?_)
set_option maxHeartbeats 8000000 in
set_option maxRecDepth 100000 in
theorem dayshiftlaw02_known.calls (k : Nat)  (r : Bool) (w : World) (h : dayshiftlaw02_known.f k  = some r) :
    Calls Try.prog 12 #[] w fun e w' => e = .returned (.bool r) ∧ Below w.heap.size w w' := by
  have HB := Aside0.mk (Below.refl w.heap.size w)
  have H : ((dayshiftlaw02_day.f k 2018 12 31).bind fun t149 => ((week_Week.f k t149).bind fun bt150 => ((week_Nth.f k 2024 2 3 (-1)).bind fun bt153 => ((week_Order.f 7439 240).bind fun bt155 => ((week_Order.f 7440 240).bind fun bt157 => ((week_Read.f (⟨#[50, 51, 58, 53, 57]⟩ : ByteArray)).bind fun bt159 => (if bt150.1 = 2019 then (if bt150.2.1 = 1 then (if bt150.2.2 = 0 then ((dayshiftlaw02_day.f k 2024 2 29).bind fun t161 => (if bt153.1 = t161 then (if bt153.2 = 0 then (if bt155.1 = 4 then (if bt155.2 = 0 then (if bt157.1 = 5 then (if bt157.2 = 0 then (if bt159.1 = 1439 then (some (bt159.2 == 0)) else (some false)) else (some false)) else (some false)) else (some false)) else (some false)) else (some false)) else (some false))) else (some false)) else (some false)) else (some false)))))))) = some r := h
  clear h
  replace H := Option.bind_eq_some_iff.mp H
  obtain ⟨t149, A10, H⟩ := H
  replace H : ((week_Week.f k t149).bind fun bt150 => ((week_Nth.f k 2024 2 3 (-1)).bind fun bt153 => ((week_Order.f 7439 240).bind fun bt155 => ((week_Order.f 7440 240).bind fun bt157 => ((week_Read.f (⟨#[50, 51, 58, 53, 57]⟩ : ByteArray)).bind fun bt159 => (if bt150.1 = 2019 then (if bt150.2.1 = 1 then (if bt150.2.2 = 0 then ((dayshiftlaw02_day.f k 2024 2 29).bind fun t161 => (if bt153.1 = t161 then (if bt153.2 = 0 then (if bt155.1 = 4 then (if bt155.2 = 0 then (if bt157.1 = 5 then (if bt157.2 = 0 then (if bt159.1 = 1439 then (some (bt159.2 == 0)) else (some false)) else (some false)) else (some false)) else (some false)) else (some false)) else (some false)) else (some false))) else (some false)) else (some false)) else (some false))))))) = some r := H
  have A1 := Aside0.mk A10
  clear A10
  replace H := Option.bind_eq_some_iff.mp H
  obtain ⟨⟨t150, t151, t152⟩, A20, H⟩ := H
  replace H : ((week_Nth.f k 2024 2 3 (-1)).bind fun bt153 => ((week_Order.f 7439 240).bind fun bt155 => ((week_Order.f 7440 240).bind fun bt157 => ((week_Read.f (⟨#[50, 51, 58, 53, 57]⟩ : ByteArray)).bind fun bt159 => (if t150 = 2019 then (if t151 = 1 then (if t152 = 0 then ((dayshiftlaw02_day.f k 2024 2 29).bind fun t161 => (if bt153.1 = t161 then (if bt153.2 = 0 then (if bt155.1 = 4 then (if bt155.2 = 0 then (if bt157.1 = 5 then (if bt157.2 = 0 then (if bt159.1 = 1439 then (some (bt159.2 == 0)) else (some false)) else (some false)) else (some false)) else (some false)) else (some false)) else (some false)) else (some false))) else (some false)) else (some false)) else (some false)))))) = some r := H
  have A2 := Aside0.mk A20
  clear A20
  replace H := Option.bind_eq_some_iff.mp H
  obtain ⟨⟨t153, t154⟩, A30, H⟩ := H
  replace H : ((week_Order.f 7439 240).bind fun bt155 => ((week_Order.f 7440 240).bind fun bt157 => ((week_Read.f (⟨#[50, 51, 58, 53, 57]⟩ : ByteArray)).bind fun bt159 => (if t150 = 2019 then (if t151 = 1 then (if t152 = 0 then ((dayshiftlaw02_day.f k 2024 2 29).bind fun t161 => (if t153 = t161 then (if t154 = 0 then (if bt155.1 = 4 then (if bt155.2 = 0 then (if bt157.1 = 5 then (if bt157.2 = 0 then (if bt159.1 = 1439 then (some (bt159.2 == 0)) else (some false)) else (some false)) else (some false)) else (some false)) else (some false)) else (some false)) else (some false))) else (some false)) else (some false)) else (some false))))) = some r := H
  have A3 := Aside0.mk A30
  clear A30
  replace H := Option.bind_eq_some_iff.mp H
  obtain ⟨⟨t155, t156⟩, A40, H⟩ := H
  replace H : ((week_Order.f 7440 240).bind fun bt157 => ((week_Read.f (⟨#[50, 51, 58, 53, 57]⟩ : ByteArray)).bind fun bt159 => (if t150 = 2019 then (if t151 = 1 then (if t152 = 0 then ((dayshiftlaw02_day.f k 2024 2 29).bind fun t161 => (if t153 = t161 then (if t154 = 0 then (if t155 = 4 then (if t156 = 0 then (if bt157.1 = 5 then (if bt157.2 = 0 then (if bt159.1 = 1439 then (some (bt159.2 == 0)) else (some false)) else (some false)) else (some false)) else (some false)) else (some false)) else (some false)) else (some false))) else (some false)) else (some false)) else (some false)))) = some r := H
  have A4 := Aside0.mk A40
  clear A40
  replace H := Option.bind_eq_some_iff.mp H
  obtain ⟨⟨t157, t158⟩, A50, H⟩ := H
  replace H : ((week_Read.f (⟨#[50, 51, 58, 53, 57]⟩ : ByteArray)).bind fun bt159 => (if t150 = 2019 then (if t151 = 1 then (if t152 = 0 then ((dayshiftlaw02_day.f k 2024 2 29).bind fun t161 => (if t153 = t161 then (if t154 = 0 then (if t155 = 4 then (if t156 = 0 then (if t157 = 5 then (if t158 = 0 then (if bt159.1 = 1439 then (some (bt159.2 == 0)) else (some false)) else (some false)) else (some false)) else (some false)) else (some false)) else (some false)) else (some false))) else (some false)) else (some false)) else (some false))) = some r := H
  have A5 := Aside0.mk A50
  clear A50
  replace H := Option.bind_eq_some_iff.mp H
  obtain ⟨⟨t159, t160⟩, A60, H⟩ := H
  replace H : (if t150 = 2019 then (if t151 = 1 then (if t152 = 0 then ((dayshiftlaw02_day.f k 2024 2 29).bind fun t161 => (if t153 = t161 then (if t154 = 0 then (if t155 = 4 then (if t156 = 0 then (if t157 = 5 then (if t158 = 0 then (if t159 = 1439 then (some (t160 == 0)) else (some false)) else (some false)) else (some false)) else (some false)) else (some false)) else (some false)) else (some false))) else (some false)) else (some false)) else (some false)) = some r := H
  have A6 := Aside0.mk A60
  clear A60
  by_cases c7 : t150 = 2019
  · rw [if_pos c7] at H
    have c7b0 : (t150 == 2019) = true := beq_iff_eq.mpr c7
    have c7b1 : (t150 != 2019) = false := bne_eq_false_iff_eq.mpr c7
    clear c7
    by_cases c8 : t151 = 1
    · rw [if_pos c8] at H
      have c8b0 : (t151 == 1) = true := beq_iff_eq.mpr c8
      have c8b1 : (t151 != 1) = false := bne_eq_false_iff_eq.mpr c8
      clear c8
      by_cases c9 : t152 = 0
      · rw [if_pos c9] at H
        have c9b0 : (t152 == 0) = true := beq_iff_eq.mpr c9
        have c9b1 : (t152 != 0) = false := bne_eq_false_iff_eq.mpr c9
        clear c9
        replace H := Option.bind_eq_some_iff.mp H
        obtain ⟨t161, A100, H⟩ := H
        replace H : (if t153 = t161 then (if t154 = 0 then (if t155 = 4 then (if t156 = 0 then (if t157 = 5 then (if t158 = 0 then (if t159 = 1439 then (some (t160 == 0)) else (some false)) else (some false)) else (some false)) else (some false)) else (some false)) else (some false)) else (some false)) = some r := H
        have A10 := Aside0.mk A100
        clear A100
        by_cases c11 : t153 = t161
        · rw [if_pos c11] at H
          have c11b0 : (t153 == t161) = true := beq_iff_eq.mpr c11
          have c11b1 : (t153 != t161) = false := bne_eq_false_iff_eq.mpr c11
          clear c11
          by_cases c12 : t154 = 0
          · rw [if_pos c12] at H
            have c12b0 : (t154 == 0) = true := beq_iff_eq.mpr c12
            have c12b1 : (t154 != 0) = false := bne_eq_false_iff_eq.mpr c12
            clear c12
            by_cases c13 : t155 = 4
            · rw [if_pos c13] at H
              have c13b0 : (t155 == 4) = true := beq_iff_eq.mpr c13
              have c13b1 : (t155 != 4) = false := bne_eq_false_iff_eq.mpr c13
              clear c13
              by_cases c14 : t156 = 0
              · rw [if_pos c14] at H
                have c14b0 : (t156 == 0) = true := beq_iff_eq.mpr c14
                have c14b1 : (t156 != 0) = false := bne_eq_false_iff_eq.mpr c14
                clear c14
                by_cases c15 : t157 = 5
                · rw [if_pos c15] at H
                  have c15b0 : (t157 == 5) = true := beq_iff_eq.mpr c15
                  have c15b1 : (t157 != 5) = false := bne_eq_false_iff_eq.mpr c15
                  clear c15
                  by_cases c16 : t158 = 0
                  · rw [if_pos c16] at H
                    have c16b0 : (t158 == 0) = true := beq_iff_eq.mpr c16
                    have c16b1 : (t158 != 0) = false := bne_eq_false_iff_eq.mpr c16
                    clear c16
                    by_cases c17 : t159 = 1439
                    · rw [if_pos c17] at H
                      have c17b0 : (t159 == 1439) = true := beq_iff_eq.mpr c17
                      have c17b1 : (t159 != 1439) = false := bne_eq_false_iff_eq.mpr c17
                      clear c17
                      obtain rfl := Option.some.inj H
                      go_enter Try.func12, Try.ntmps12
                      go_wp2_with (first | ((with_reducible refine gate_callee (f := 35) rfl ?_); refine goesL_ (some 13) rfl rfl Try.func35 (by kernel_rfl) rfl #[.int .i64 2018, .int .i64 12, .int .i64 31] rfl (by (try simp only [List.map_toArray, List.map_cons, List.map_nil]); first | done | rfl | (simp only [List.length_drop, List.length_take]; rfl)) ?_; (with_reducible refine (dayshiftlaw02_day.calls k 2018 12 31 t149 _ A1.out).mono ?_); rintro e w' ⟨rfl, ⟨nd, rfl⟩⟩; refine ⟨_, rfl, ?_⟩) | ((with_reducible refine gate_callee (f := 15) rfl ?_); refine goesL_ (some 14) rfl rfl Try.func15 (by kernel_rfl) rfl #[.int .i64 t149] rfl (by (try simp only [List.map_toArray, List.map_cons, List.map_nil]); first | done | rfl | (simp only [List.length_drop, List.length_take]; rfl)) ?_; (with_reducible refine (week_Week.calls k t149 t150 t151 t152 _ A2.out).mono ?_); rintro e w18 ⟨rfl, hb⟩; refine ⟨_, rfl, ?_⟩; have n0_ := Aside0.mk (below_step (by repeat (first | (with_reducible first | exact HB.out | apply below_alloc | apply pw_below_drewN | apply below_drew1) | exact HB.out)) hb); clear HB; have HB := n0_; clear n0_; (try clear hb); (try clear hb2); (try clear hk); (try clear hi)) | ((with_reducible refine gate_callee (f := 10) rfl ?_); refine goesL_ (some 19) rfl rfl Try.func10 (by kernel_rfl) rfl #[.int .i64 2024, .int .i64 2, .int .i64 3, .int .i64 (-1)] rfl (by (try simp only [List.map_toArray, List.map_cons, List.map_nil]); first | done | rfl | (simp only [List.length_drop, List.length_take]; rfl)) ?_; (with_reducible refine (week_Nth.calls k 2024 2 3 (-1) t153 t154 _ A3.out).mono ?_); rintro e w19 ⟨rfl, hb⟩; refine ⟨_, rfl, ?_⟩; have n0_ := Aside0.mk (below_step (by repeat (first | (with_reducible first | exact HB.out | apply below_alloc | apply pw_below_drewN | apply below_drew1) | exact HB.out)) hb); clear HB; have HB := n0_; clear n0_; (try clear hb); (try clear hb2); (try clear hk); (try clear hi)) | ((with_reducible refine gate_callee (f := 13) rfl ?_); refine goesL_ (some 23) rfl rfl Try.func13 (by kernel_rfl) rfl #[.int .i64 7439, .int .i64 240] rfl (by (try simp only [List.map_toArray, List.map_cons, List.map_nil]); first | done | rfl | (simp only [List.length_drop, List.length_take]; rfl)) ?_; (with_reducible refine (week_Order.calls 7439 240 t155 t156 _ A4.out).mono ?_); rintro e w' ⟨rfl, ⟨nd, rfl⟩⟩; refine ⟨_, rfl, ?_⟩) | ((with_reducible refine gate_callee (f := 13) rfl ?_); refine goesL_ (some 27) rfl rfl Try.func13 (by kernel_rfl) rfl #[.int .i64 7440, .int .i64 240] rfl (by (try simp only [List.map_toArray, List.map_cons, List.map_nil]); first | done | rfl | (simp only [List.length_drop, List.length_take]; rfl)) ?_; (with_reducible refine (week_Order.calls 7440 240 t157 t158 _ A5.out).mono ?_); rintro e w' ⟨rfl, ⟨nd, rfl⟩⟩; refine ⟨_, rfl, ?_⟩) | ((with_reducible refine gate_callee (f := 18) rfl ?_); refine goesL_ (some 31) rfl rfl Try.func18 (by kernel_rfl) rfl #[.string (⟨#[50, 51, 58, 53, 57]⟩ : ByteArray)] rfl (by (try simp only [List.map_toArray, List.map_cons, List.map_nil]); first | done | rfl | (simp only [List.length_drop, List.length_take]; rfl)) ?_; (with_reducible refine (week_Read.calls (⟨#[50, 51, 58, 53, 57]⟩ : ByteArray) t159 t160 _ A6.out).mono ?_); rintro e w20 ⟨rfl, hb⟩; refine ⟨_, rfl, ?_⟩; have n0_ := Aside0.mk (below_step (by repeat (first | (with_reducible first | exact HB.out | apply below_alloc | apply pw_below_drewN | apply below_drew1) | exact HB.out)) hb); clear HB; have HB := n0_; clear n0_; (try clear hb); (try clear hb2); (try clear hk); (try clear hi)) | (go_at_call 35; (with_reducible refine (dayshiftlaw02_day.calls k 2024 2 29 t161 _ A10.out).mono ?_); rintro e w' ⟨rfl, ⟨nd, rfl⟩⟩))
                      go_ret
                      exact ⟨by first | rfl | (simp [errW_none, errW_some] <;> rfl) | (simp [*, errW_none, errW_some] <;> rfl), by repeat (first | (with_reducible first | exact HB.out | apply below_alloc | apply pw_below_drewN | apply below_drew1) | exact HB.out)⟩
                    · rw [if_neg c17] at H
                      have c17b0 : (t159 == 1439) = false := beq_eq_false_iff_ne.mpr c17
                      have c17b1 : (t159 != 1439) = true := bne_iff_ne.mpr c17
                      obtain rfl := Option.some.inj H
                      go_enter Try.func12, Try.ntmps12
                      go_wp2_with (first | ((with_reducible refine gate_callee (f := 35) rfl ?_); refine goesL_ (some 13) rfl rfl Try.func35 (by kernel_rfl) rfl #[.int .i64 2018, .int .i64 12, .int .i64 31] rfl (by (try simp only [List.map_toArray, List.map_cons, List.map_nil]); first | done | rfl | (simp only [List.length_drop, List.length_take]; rfl)) ?_; (with_reducible refine (dayshiftlaw02_day.calls k 2018 12 31 t149 _ A1.out).mono ?_); rintro e w' ⟨rfl, ⟨nd, rfl⟩⟩; refine ⟨_, rfl, ?_⟩) | ((with_reducible refine gate_callee (f := 15) rfl ?_); refine goesL_ (some 14) rfl rfl Try.func15 (by kernel_rfl) rfl #[.int .i64 t149] rfl (by (try simp only [List.map_toArray, List.map_cons, List.map_nil]); first | done | rfl | (simp only [List.length_drop, List.length_take]; rfl)) ?_; (with_reducible refine (week_Week.calls k t149 t150 t151 t152 _ A2.out).mono ?_); rintro e w21 ⟨rfl, hb⟩; refine ⟨_, rfl, ?_⟩; have n0_ := Aside0.mk (below_step (by repeat (first | (with_reducible first | exact HB.out | apply below_alloc | apply pw_below_drewN | apply below_drew1) | exact HB.out)) hb); clear HB; have HB := n0_; clear n0_; (try clear hb); (try clear hb2); (try clear hk); (try clear hi)) | ((with_reducible refine gate_callee (f := 10) rfl ?_); refine goesL_ (some 19) rfl rfl Try.func10 (by kernel_rfl) rfl #[.int .i64 2024, .int .i64 2, .int .i64 3, .int .i64 (-1)] rfl (by (try simp only [List.map_toArray, List.map_cons, List.map_nil]); first | done | rfl | (simp only [List.length_drop, List.length_take]; rfl)) ?_; (with_reducible refine (week_Nth.calls k 2024 2 3 (-1) t153 t154 _ A3.out).mono ?_); rintro e w22 ⟨rfl, hb⟩; refine ⟨_, rfl, ?_⟩; have n0_ := Aside0.mk (below_step (by repeat (first | (with_reducible first | exact HB.out | apply below_alloc | apply pw_below_drewN | apply below_drew1) | exact HB.out)) hb); clear HB; have HB := n0_; clear n0_; (try clear hb); (try clear hb2); (try clear hk); (try clear hi)) | ((with_reducible refine gate_callee (f := 13) rfl ?_); refine goesL_ (some 23) rfl rfl Try.func13 (by kernel_rfl) rfl #[.int .i64 7439, .int .i64 240] rfl (by (try simp only [List.map_toArray, List.map_cons, List.map_nil]); first | done | rfl | (simp only [List.length_drop, List.length_take]; rfl)) ?_; (with_reducible refine (week_Order.calls 7439 240 t155 t156 _ A4.out).mono ?_); rintro e w' ⟨rfl, ⟨nd, rfl⟩⟩; refine ⟨_, rfl, ?_⟩) | ((with_reducible refine gate_callee (f := 13) rfl ?_); refine goesL_ (some 27) rfl rfl Try.func13 (by kernel_rfl) rfl #[.int .i64 7440, .int .i64 240] rfl (by (try simp only [List.map_toArray, List.map_cons, List.map_nil]); first | done | rfl | (simp only [List.length_drop, List.length_take]; rfl)) ?_; (with_reducible refine (week_Order.calls 7440 240 t157 t158 _ A5.out).mono ?_); rintro e w' ⟨rfl, ⟨nd, rfl⟩⟩; refine ⟨_, rfl, ?_⟩) | ((with_reducible refine gate_callee (f := 18) rfl ?_); refine goesL_ (some 31) rfl rfl Try.func18 (by kernel_rfl) rfl #[.string (⟨#[50, 51, 58, 53, 57]⟩ : ByteArray)] rfl (by (try simp only [List.map_toArray, List.map_cons, List.map_nil]); first | done | rfl | (simp only [List.length_drop, List.length_take]; rfl)) ?_; (with_reducible refine (week_Read.calls (⟨#[50, 51, 58, 53, 57]⟩ : ByteArray) t159 t160 _ A6.out).mono ?_); rintro e w23 ⟨rfl, hb⟩; refine ⟨_, rfl, ?_⟩; have n0_ := Aside0.mk (below_step (by repeat (first | (with_reducible first | exact HB.out | apply below_alloc | apply pw_below_drewN | apply below_drew1) | exact HB.out)) hb); clear HB; have HB := n0_; clear n0_; (try clear hb); (try clear hb2); (try clear hk); (try clear hi)) | (go_at_call 35; (with_reducible refine (dayshiftlaw02_day.calls k 2024 2 29 t161 _ A10.out).mono ?_); rintro e w' ⟨rfl, ⟨nd, rfl⟩⟩))
                      go_ret
                      exact ⟨by first | rfl | (simp [errW_none, errW_some] <;> rfl) | (simp [*, errW_none, errW_some] <;> rfl), by repeat (first | (with_reducible first | exact HB.out | apply below_alloc | apply pw_below_drewN | apply below_drew1) | exact HB.out)⟩
                  · rw [if_neg c16] at H
                    have c16b0 : (t158 == 0) = false := beq_eq_false_iff_ne.mpr c16
                    have c16b1 : (t158 != 0) = true := bne_iff_ne.mpr c16
                    obtain rfl := Option.some.inj H
                    go_enter Try.func12, Try.ntmps12
                    go_wp2_with (first | ((with_reducible refine gate_callee (f := 35) rfl ?_); refine goesL_ (some 13) rfl rfl Try.func35 (by kernel_rfl) rfl #[.int .i64 2018, .int .i64 12, .int .i64 31] rfl (by (try simp only [List.map_toArray, List.map_cons, List.map_nil]); first | done | rfl | (simp only [List.length_drop, List.length_take]; rfl)) ?_; (with_reducible refine (dayshiftlaw02_day.calls k 2018 12 31 t149 _ A1.out).mono ?_); rintro e w' ⟨rfl, ⟨nd, rfl⟩⟩; refine ⟨_, rfl, ?_⟩) | ((with_reducible refine gate_callee (f := 15) rfl ?_); refine goesL_ (some 14) rfl rfl Try.func15 (by kernel_rfl) rfl #[.int .i64 t149] rfl (by (try simp only [List.map_toArray, List.map_cons, List.map_nil]); first | done | rfl | (simp only [List.length_drop, List.length_take]; rfl)) ?_; (with_reducible refine (week_Week.calls k t149 t150 t151 t152 _ A2.out).mono ?_); rintro e w24 ⟨rfl, hb⟩; refine ⟨_, rfl, ?_⟩; have n0_ := Aside0.mk (below_step (by repeat (first | (with_reducible first | exact HB.out | apply below_alloc | apply pw_below_drewN | apply below_drew1) | exact HB.out)) hb); clear HB; have HB := n0_; clear n0_; (try clear hb); (try clear hb2); (try clear hk); (try clear hi)) | ((with_reducible refine gate_callee (f := 10) rfl ?_); refine goesL_ (some 19) rfl rfl Try.func10 (by kernel_rfl) rfl #[.int .i64 2024, .int .i64 2, .int .i64 3, .int .i64 (-1)] rfl (by (try simp only [List.map_toArray, List.map_cons, List.map_nil]); first | done | rfl | (simp only [List.length_drop, List.length_take]; rfl)) ?_; (with_reducible refine (week_Nth.calls k 2024 2 3 (-1) t153 t154 _ A3.out).mono ?_); rintro e w25 ⟨rfl, hb⟩; refine ⟨_, rfl, ?_⟩; have n0_ := Aside0.mk (below_step (by repeat (first | (with_reducible first | exact HB.out | apply below_alloc | apply pw_below_drewN | apply below_drew1) | exact HB.out)) hb); clear HB; have HB := n0_; clear n0_; (try clear hb); (try clear hb2); (try clear hk); (try clear hi)) | ((with_reducible refine gate_callee (f := 13) rfl ?_); refine goesL_ (some 23) rfl rfl Try.func13 (by kernel_rfl) rfl #[.int .i64 7439, .int .i64 240] rfl (by (try simp only [List.map_toArray, List.map_cons, List.map_nil]); first | done | rfl | (simp only [List.length_drop, List.length_take]; rfl)) ?_; (with_reducible refine (week_Order.calls 7439 240 t155 t156 _ A4.out).mono ?_); rintro e w' ⟨rfl, ⟨nd, rfl⟩⟩; refine ⟨_, rfl, ?_⟩) | ((with_reducible refine gate_callee (f := 13) rfl ?_); refine goesL_ (some 27) rfl rfl Try.func13 (by kernel_rfl) rfl #[.int .i64 7440, .int .i64 240] rfl (by (try simp only [List.map_toArray, List.map_cons, List.map_nil]); first | done | rfl | (simp only [List.length_drop, List.length_take]; rfl)) ?_; (with_reducible refine (week_Order.calls 7440 240 t157 t158 _ A5.out).mono ?_); rintro e w' ⟨rfl, ⟨nd, rfl⟩⟩; refine ⟨_, rfl, ?_⟩) | ((with_reducible refine gate_callee (f := 18) rfl ?_); refine goesL_ (some 31) rfl rfl Try.func18 (by kernel_rfl) rfl #[.string (⟨#[50, 51, 58, 53, 57]⟩ : ByteArray)] rfl (by (try simp only [List.map_toArray, List.map_cons, List.map_nil]); first | done | rfl | (simp only [List.length_drop, List.length_take]; rfl)) ?_; (with_reducible refine (week_Read.calls (⟨#[50, 51, 58, 53, 57]⟩ : ByteArray) t159 t160 _ A6.out).mono ?_); rintro e w26 ⟨rfl, hb⟩; refine ⟨_, rfl, ?_⟩; have n0_ := Aside0.mk (below_step (by repeat (first | (with_reducible first | exact HB.out | apply below_alloc | apply pw_below_drewN | apply below_drew1) | exact HB.out)) hb); clear HB; have HB := n0_; clear n0_; (try clear hb); (try clear hb2); (try clear hk); (try clear hi)) | (go_at_call 35; (with_reducible refine (dayshiftlaw02_day.calls k 2024 2 29 t161 _ A10.out).mono ?_); rintro e w' ⟨rfl, ⟨nd, rfl⟩⟩))
                    go_ret
                    exact ⟨by first | rfl | (simp [errW_none, errW_some] <;> rfl) | (simp [*, errW_none, errW_some] <;> rfl), by repeat (first | (with_reducible first | exact HB.out | apply below_alloc | apply pw_below_drewN | apply below_drew1) | exact HB.out)⟩
                · rw [if_neg c15] at H
                  have c15b0 : (t157 == 5) = false := beq_eq_false_iff_ne.mpr c15
                  have c15b1 : (t157 != 5) = true := bne_iff_ne.mpr c15
                  obtain rfl := Option.some.inj H
                  go_enter Try.func12, Try.ntmps12
                  go_wp2_with (first | ((with_reducible refine gate_callee (f := 35) rfl ?_); refine goesL_ (some 13) rfl rfl Try.func35 (by kernel_rfl) rfl #[.int .i64 2018, .int .i64 12, .int .i64 31] rfl (by (try simp only [List.map_toArray, List.map_cons, List.map_nil]); first | done | rfl | (simp only [List.length_drop, List.length_take]; rfl)) ?_; (with_reducible refine (dayshiftlaw02_day.calls k 2018 12 31 t149 _ A1.out).mono ?_); rintro e w' ⟨rfl, ⟨nd, rfl⟩⟩; refine ⟨_, rfl, ?_⟩) | ((with_reducible refine gate_callee (f := 15) rfl ?_); refine goesL_ (some 14) rfl rfl Try.func15 (by kernel_rfl) rfl #[.int .i64 t149] rfl (by (try simp only [List.map_toArray, List.map_cons, List.map_nil]); first | done | rfl | (simp only [List.length_drop, List.length_take]; rfl)) ?_; (with_reducible refine (week_Week.calls k t149 t150 t151 t152 _ A2.out).mono ?_); rintro e w27 ⟨rfl, hb⟩; refine ⟨_, rfl, ?_⟩; have n0_ := Aside0.mk (below_step (by repeat (first | (with_reducible first | exact HB.out | apply below_alloc | apply pw_below_drewN | apply below_drew1) | exact HB.out)) hb); clear HB; have HB := n0_; clear n0_; (try clear hb); (try clear hb2); (try clear hk); (try clear hi)) | ((with_reducible refine gate_callee (f := 10) rfl ?_); refine goesL_ (some 19) rfl rfl Try.func10 (by kernel_rfl) rfl #[.int .i64 2024, .int .i64 2, .int .i64 3, .int .i64 (-1)] rfl (by (try simp only [List.map_toArray, List.map_cons, List.map_nil]); first | done | rfl | (simp only [List.length_drop, List.length_take]; rfl)) ?_; (with_reducible refine (week_Nth.calls k 2024 2 3 (-1) t153 t154 _ A3.out).mono ?_); rintro e w28 ⟨rfl, hb⟩; refine ⟨_, rfl, ?_⟩; have n0_ := Aside0.mk (below_step (by repeat (first | (with_reducible first | exact HB.out | apply below_alloc | apply pw_below_drewN | apply below_drew1) | exact HB.out)) hb); clear HB; have HB := n0_; clear n0_; (try clear hb); (try clear hb2); (try clear hk); (try clear hi)) | ((with_reducible refine gate_callee (f := 13) rfl ?_); refine goesL_ (some 23) rfl rfl Try.func13 (by kernel_rfl) rfl #[.int .i64 7439, .int .i64 240] rfl (by (try simp only [List.map_toArray, List.map_cons, List.map_nil]); first | done | rfl | (simp only [List.length_drop, List.length_take]; rfl)) ?_; (with_reducible refine (week_Order.calls 7439 240 t155 t156 _ A4.out).mono ?_); rintro e w' ⟨rfl, ⟨nd, rfl⟩⟩; refine ⟨_, rfl, ?_⟩) | ((with_reducible refine gate_callee (f := 13) rfl ?_); refine goesL_ (some 27) rfl rfl Try.func13 (by kernel_rfl) rfl #[.int .i64 7440, .int .i64 240] rfl (by (try simp only [List.map_toArray, List.map_cons, List.map_nil]); first | done | rfl | (simp only [List.length_drop, List.length_take]; rfl)) ?_; (with_reducible refine (week_Order.calls 7440 240 t157 t158 _ A5.out).mono ?_); rintro e w' ⟨rfl, ⟨nd, rfl⟩⟩; refine ⟨_, rfl, ?_⟩) | ((with_reducible refine gate_callee (f := 18) rfl ?_); refine goesL_ (some 31) rfl rfl Try.func18 (by kernel_rfl) rfl #[.string (⟨#[50, 51, 58, 53, 57]⟩ : ByteArray)] rfl (by (try simp only [List.map_toArray, List.map_cons, List.map_nil]); first | done | rfl | (simp only [List.length_drop, List.length_take]; rfl)) ?_; (with_reducible refine (week_Read.calls (⟨#[50, 51, 58, 53, 57]⟩ : ByteArray) t159 t160 _ A6.out).mono ?_); rintro e w29 ⟨rfl, hb⟩; refine ⟨_, rfl, ?_⟩; have n0_ := Aside0.mk (below_step (by repeat (first | (with_reducible first | exact HB.out | apply below_alloc | apply pw_below_drewN | apply below_drew1) | exact HB.out)) hb); clear HB; have HB := n0_; clear n0_; (try clear hb); (try clear hb2); (try clear hk); (try clear hi)) | (go_at_call 35; (with_reducible refine (dayshiftlaw02_day.calls k 2024 2 29 t161 _ A10.out).mono ?_); rintro e w' ⟨rfl, ⟨nd, rfl⟩⟩))
                  go_ret
                  exact ⟨by first | rfl | (simp [errW_none, errW_some] <;> rfl) | (simp [*, errW_none, errW_some] <;> rfl), by repeat (first | (with_reducible first | exact HB.out | apply below_alloc | apply pw_below_drewN | apply below_drew1) | exact HB.out)⟩
              · rw [if_neg c14] at H
                have c14b0 : (t156 == 0) = false := beq_eq_false_iff_ne.mpr c14
                have c14b1 : (t156 != 0) = true := bne_iff_ne.mpr c14
                obtain rfl := Option.some.inj H
                go_enter Try.func12, Try.ntmps12
                go_wp2_with (first | ((with_reducible refine gate_callee (f := 35) rfl ?_); refine goesL_ (some 13) rfl rfl Try.func35 (by kernel_rfl) rfl #[.int .i64 2018, .int .i64 12, .int .i64 31] rfl (by (try simp only [List.map_toArray, List.map_cons, List.map_nil]); first | done | rfl | (simp only [List.length_drop, List.length_take]; rfl)) ?_; (with_reducible refine (dayshiftlaw02_day.calls k 2018 12 31 t149 _ A1.out).mono ?_); rintro e w' ⟨rfl, ⟨nd, rfl⟩⟩; refine ⟨_, rfl, ?_⟩) | ((with_reducible refine gate_callee (f := 15) rfl ?_); refine goesL_ (some 14) rfl rfl Try.func15 (by kernel_rfl) rfl #[.int .i64 t149] rfl (by (try simp only [List.map_toArray, List.map_cons, List.map_nil]); first | done | rfl | (simp only [List.length_drop, List.length_take]; rfl)) ?_; (with_reducible refine (week_Week.calls k t149 t150 t151 t152 _ A2.out).mono ?_); rintro e w30 ⟨rfl, hb⟩; refine ⟨_, rfl, ?_⟩; have n0_ := Aside0.mk (below_step (by repeat (first | (with_reducible first | exact HB.out | apply below_alloc | apply pw_below_drewN | apply below_drew1) | exact HB.out)) hb); clear HB; have HB := n0_; clear n0_; (try clear hb); (try clear hb2); (try clear hk); (try clear hi)) | ((with_reducible refine gate_callee (f := 10) rfl ?_); refine goesL_ (some 19) rfl rfl Try.func10 (by kernel_rfl) rfl #[.int .i64 2024, .int .i64 2, .int .i64 3, .int .i64 (-1)] rfl (by (try simp only [List.map_toArray, List.map_cons, List.map_nil]); first | done | rfl | (simp only [List.length_drop, List.length_take]; rfl)) ?_; (with_reducible refine (week_Nth.calls k 2024 2 3 (-1) t153 t154 _ A3.out).mono ?_); rintro e w31 ⟨rfl, hb⟩; refine ⟨_, rfl, ?_⟩; have n0_ := Aside0.mk (below_step (by repeat (first | (with_reducible first | exact HB.out | apply below_alloc | apply pw_below_drewN | apply below_drew1) | exact HB.out)) hb); clear HB; have HB := n0_; clear n0_; (try clear hb); (try clear hb2); (try clear hk); (try clear hi)) | ((with_reducible refine gate_callee (f := 13) rfl ?_); refine goesL_ (some 23) rfl rfl Try.func13 (by kernel_rfl) rfl #[.int .i64 7439, .int .i64 240] rfl (by (try simp only [List.map_toArray, List.map_cons, List.map_nil]); first | done | rfl | (simp only [List.length_drop, List.length_take]; rfl)) ?_; (with_reducible refine (week_Order.calls 7439 240 t155 t156 _ A4.out).mono ?_); rintro e w' ⟨rfl, ⟨nd, rfl⟩⟩; refine ⟨_, rfl, ?_⟩) | ((with_reducible refine gate_callee (f := 13) rfl ?_); refine goesL_ (some 27) rfl rfl Try.func13 (by kernel_rfl) rfl #[.int .i64 7440, .int .i64 240] rfl (by (try simp only [List.map_toArray, List.map_cons, List.map_nil]); first | done | rfl | (simp only [List.length_drop, List.length_take]; rfl)) ?_; (with_reducible refine (week_Order.calls 7440 240 t157 t158 _ A5.out).mono ?_); rintro e w' ⟨rfl, ⟨nd, rfl⟩⟩; refine ⟨_, rfl, ?_⟩) | ((with_reducible refine gate_callee (f := 18) rfl ?_); refine goesL_ (some 31) rfl rfl Try.func18 (by kernel_rfl) rfl #[.string (⟨#[50, 51, 58, 53, 57]⟩ : ByteArray)] rfl (by (try simp only [List.map_toArray, List.map_cons, List.map_nil]); first | done | rfl | (simp only [List.length_drop, List.length_take]; rfl)) ?_; (with_reducible refine (week_Read.calls (⟨#[50, 51, 58, 53, 57]⟩ : ByteArray) t159 t160 _ A6.out).mono ?_); rintro e w32 ⟨rfl, hb⟩; refine ⟨_, rfl, ?_⟩; have n0_ := Aside0.mk (below_step (by repeat (first | (with_reducible first | exact HB.out | apply below_alloc | apply pw_below_drewN | apply below_drew1) | exact HB.out)) hb); clear HB; have HB := n0_; clear n0_; (try clear hb); (try clear hb2); (try clear hk); (try clear hi)) | (go_at_call 35; (with_reducible refine (dayshiftlaw02_day.calls k 2024 2 29 t161 _ A10.out).mono ?_); rintro e w' ⟨rfl, ⟨nd, rfl⟩⟩))
                go_ret
                exact ⟨by first | rfl | (simp [errW_none, errW_some] <;> rfl) | (simp [*, errW_none, errW_some] <;> rfl), by repeat (first | (with_reducible first | exact HB.out | apply below_alloc | apply pw_below_drewN | apply below_drew1) | exact HB.out)⟩
            · rw [if_neg c13] at H
              have c13b0 : (t155 == 4) = false := beq_eq_false_iff_ne.mpr c13
              have c13b1 : (t155 != 4) = true := bne_iff_ne.mpr c13
              obtain rfl := Option.some.inj H
              go_enter Try.func12, Try.ntmps12
              go_wp2_with (first | ((with_reducible refine gate_callee (f := 35) rfl ?_); refine goesL_ (some 13) rfl rfl Try.func35 (by kernel_rfl) rfl #[.int .i64 2018, .int .i64 12, .int .i64 31] rfl (by (try simp only [List.map_toArray, List.map_cons, List.map_nil]); first | done | rfl | (simp only [List.length_drop, List.length_take]; rfl)) ?_; (with_reducible refine (dayshiftlaw02_day.calls k 2018 12 31 t149 _ A1.out).mono ?_); rintro e w' ⟨rfl, ⟨nd, rfl⟩⟩; refine ⟨_, rfl, ?_⟩) | ((with_reducible refine gate_callee (f := 15) rfl ?_); refine goesL_ (some 14) rfl rfl Try.func15 (by kernel_rfl) rfl #[.int .i64 t149] rfl (by (try simp only [List.map_toArray, List.map_cons, List.map_nil]); first | done | rfl | (simp only [List.length_drop, List.length_take]; rfl)) ?_; (with_reducible refine (week_Week.calls k t149 t150 t151 t152 _ A2.out).mono ?_); rintro e w33 ⟨rfl, hb⟩; refine ⟨_, rfl, ?_⟩; have n0_ := Aside0.mk (below_step (by repeat (first | (with_reducible first | exact HB.out | apply below_alloc | apply pw_below_drewN | apply below_drew1) | exact HB.out)) hb); clear HB; have HB := n0_; clear n0_; (try clear hb); (try clear hb2); (try clear hk); (try clear hi)) | ((with_reducible refine gate_callee (f := 10) rfl ?_); refine goesL_ (some 19) rfl rfl Try.func10 (by kernel_rfl) rfl #[.int .i64 2024, .int .i64 2, .int .i64 3, .int .i64 (-1)] rfl (by (try simp only [List.map_toArray, List.map_cons, List.map_nil]); first | done | rfl | (simp only [List.length_drop, List.length_take]; rfl)) ?_; (with_reducible refine (week_Nth.calls k 2024 2 3 (-1) t153 t154 _ A3.out).mono ?_); rintro e w34 ⟨rfl, hb⟩; refine ⟨_, rfl, ?_⟩; have n0_ := Aside0.mk (below_step (by repeat (first | (with_reducible first | exact HB.out | apply below_alloc | apply pw_below_drewN | apply below_drew1) | exact HB.out)) hb); clear HB; have HB := n0_; clear n0_; (try clear hb); (try clear hb2); (try clear hk); (try clear hi)) | ((with_reducible refine gate_callee (f := 13) rfl ?_); refine goesL_ (some 23) rfl rfl Try.func13 (by kernel_rfl) rfl #[.int .i64 7439, .int .i64 240] rfl (by (try simp only [List.map_toArray, List.map_cons, List.map_nil]); first | done | rfl | (simp only [List.length_drop, List.length_take]; rfl)) ?_; (with_reducible refine (week_Order.calls 7439 240 t155 t156 _ A4.out).mono ?_); rintro e w' ⟨rfl, ⟨nd, rfl⟩⟩; refine ⟨_, rfl, ?_⟩) | ((with_reducible refine gate_callee (f := 13) rfl ?_); refine goesL_ (some 27) rfl rfl Try.func13 (by kernel_rfl) rfl #[.int .i64 7440, .int .i64 240] rfl (by (try simp only [List.map_toArray, List.map_cons, List.map_nil]); first | done | rfl | (simp only [List.length_drop, List.length_take]; rfl)) ?_; (with_reducible refine (week_Order.calls 7440 240 t157 t158 _ A5.out).mono ?_); rintro e w' ⟨rfl, ⟨nd, rfl⟩⟩; refine ⟨_, rfl, ?_⟩) | ((with_reducible refine gate_callee (f := 18) rfl ?_); refine goesL_ (some 31) rfl rfl Try.func18 (by kernel_rfl) rfl #[.string (⟨#[50, 51, 58, 53, 57]⟩ : ByteArray)] rfl (by (try simp only [List.map_toArray, List.map_cons, List.map_nil]); first | done | rfl | (simp only [List.length_drop, List.length_take]; rfl)) ?_; (with_reducible refine (week_Read.calls (⟨#[50, 51, 58, 53, 57]⟩ : ByteArray) t159 t160 _ A6.out).mono ?_); rintro e w35 ⟨rfl, hb⟩; refine ⟨_, rfl, ?_⟩; have n0_ := Aside0.mk (below_step (by repeat (first | (with_reducible first | exact HB.out | apply below_alloc | apply pw_below_drewN | apply below_drew1) | exact HB.out)) hb); clear HB; have HB := n0_; clear n0_; (try clear hb); (try clear hb2); (try clear hk); (try clear hi)) | (go_at_call 35; (with_reducible refine (dayshiftlaw02_day.calls k 2024 2 29 t161 _ A10.out).mono ?_); rintro e w' ⟨rfl, ⟨nd, rfl⟩⟩))
              go_ret
              exact ⟨by first | rfl | (simp [errW_none, errW_some] <;> rfl) | (simp [*, errW_none, errW_some] <;> rfl), by repeat (first | (with_reducible first | exact HB.out | apply below_alloc | apply pw_below_drewN | apply below_drew1) | exact HB.out)⟩
          · rw [if_neg c12] at H
            have c12b0 : (t154 == 0) = false := beq_eq_false_iff_ne.mpr c12
            have c12b1 : (t154 != 0) = true := bne_iff_ne.mpr c12
            obtain rfl := Option.some.inj H
            go_enter Try.func12, Try.ntmps12
            go_wp2_with (first | ((with_reducible refine gate_callee (f := 35) rfl ?_); refine goesL_ (some 13) rfl rfl Try.func35 (by kernel_rfl) rfl #[.int .i64 2018, .int .i64 12, .int .i64 31] rfl (by (try simp only [List.map_toArray, List.map_cons, List.map_nil]); first | done | rfl | (simp only [List.length_drop, List.length_take]; rfl)) ?_; (with_reducible refine (dayshiftlaw02_day.calls k 2018 12 31 t149 _ A1.out).mono ?_); rintro e w' ⟨rfl, ⟨nd, rfl⟩⟩; refine ⟨_, rfl, ?_⟩) | ((with_reducible refine gate_callee (f := 15) rfl ?_); refine goesL_ (some 14) rfl rfl Try.func15 (by kernel_rfl) rfl #[.int .i64 t149] rfl (by (try simp only [List.map_toArray, List.map_cons, List.map_nil]); first | done | rfl | (simp only [List.length_drop, List.length_take]; rfl)) ?_; (with_reducible refine (week_Week.calls k t149 t150 t151 t152 _ A2.out).mono ?_); rintro e w36 ⟨rfl, hb⟩; refine ⟨_, rfl, ?_⟩; have n0_ := Aside0.mk (below_step (by repeat (first | (with_reducible first | exact HB.out | apply below_alloc | apply pw_below_drewN | apply below_drew1) | exact HB.out)) hb); clear HB; have HB := n0_; clear n0_; (try clear hb); (try clear hb2); (try clear hk); (try clear hi)) | ((with_reducible refine gate_callee (f := 10) rfl ?_); refine goesL_ (some 19) rfl rfl Try.func10 (by kernel_rfl) rfl #[.int .i64 2024, .int .i64 2, .int .i64 3, .int .i64 (-1)] rfl (by (try simp only [List.map_toArray, List.map_cons, List.map_nil]); first | done | rfl | (simp only [List.length_drop, List.length_take]; rfl)) ?_; (with_reducible refine (week_Nth.calls k 2024 2 3 (-1) t153 t154 _ A3.out).mono ?_); rintro e w37 ⟨rfl, hb⟩; refine ⟨_, rfl, ?_⟩; have n0_ := Aside0.mk (below_step (by repeat (first | (with_reducible first | exact HB.out | apply below_alloc | apply pw_below_drewN | apply below_drew1) | exact HB.out)) hb); clear HB; have HB := n0_; clear n0_; (try clear hb); (try clear hb2); (try clear hk); (try clear hi)) | ((with_reducible refine gate_callee (f := 13) rfl ?_); refine goesL_ (some 23) rfl rfl Try.func13 (by kernel_rfl) rfl #[.int .i64 7439, .int .i64 240] rfl (by (try simp only [List.map_toArray, List.map_cons, List.map_nil]); first | done | rfl | (simp only [List.length_drop, List.length_take]; rfl)) ?_; (with_reducible refine (week_Order.calls 7439 240 t155 t156 _ A4.out).mono ?_); rintro e w' ⟨rfl, ⟨nd, rfl⟩⟩; refine ⟨_, rfl, ?_⟩) | ((with_reducible refine gate_callee (f := 13) rfl ?_); refine goesL_ (some 27) rfl rfl Try.func13 (by kernel_rfl) rfl #[.int .i64 7440, .int .i64 240] rfl (by (try simp only [List.map_toArray, List.map_cons, List.map_nil]); first | done | rfl | (simp only [List.length_drop, List.length_take]; rfl)) ?_; (with_reducible refine (week_Order.calls 7440 240 t157 t158 _ A5.out).mono ?_); rintro e w' ⟨rfl, ⟨nd, rfl⟩⟩; refine ⟨_, rfl, ?_⟩) | ((with_reducible refine gate_callee (f := 18) rfl ?_); refine goesL_ (some 31) rfl rfl Try.func18 (by kernel_rfl) rfl #[.string (⟨#[50, 51, 58, 53, 57]⟩ : ByteArray)] rfl (by (try simp only [List.map_toArray, List.map_cons, List.map_nil]); first | done | rfl | (simp only [List.length_drop, List.length_take]; rfl)) ?_; (with_reducible refine (week_Read.calls (⟨#[50, 51, 58, 53, 57]⟩ : ByteArray) t159 t160 _ A6.out).mono ?_); rintro e w38 ⟨rfl, hb⟩; refine ⟨_, rfl, ?_⟩; have n0_ := Aside0.mk (below_step (by repeat (first | (with_reducible first | exact HB.out | apply below_alloc | apply pw_below_drewN | apply below_drew1) | exact HB.out)) hb); clear HB; have HB := n0_; clear n0_; (try clear hb); (try clear hb2); (try clear hk); (try clear hi)) | (go_at_call 35; (with_reducible refine (dayshiftlaw02_day.calls k 2024 2 29 t161 _ A10.out).mono ?_); rintro e w' ⟨rfl, ⟨nd, rfl⟩⟩))
            go_ret
            exact ⟨by first | rfl | (simp [errW_none, errW_some] <;> rfl) | (simp [*, errW_none, errW_some] <;> rfl), by repeat (first | (with_reducible first | exact HB.out | apply below_alloc | apply pw_below_drewN | apply below_drew1) | exact HB.out)⟩
        · rw [if_neg c11] at H
          have c11b0 : (t153 == t161) = false := beq_eq_false_iff_ne.mpr c11
          have c11b1 : (t153 != t161) = true := bne_iff_ne.mpr c11
          obtain rfl := Option.some.inj H
          go_enter Try.func12, Try.ntmps12
          go_wp2_with (first | ((with_reducible refine gate_callee (f := 35) rfl ?_); refine goesL_ (some 13) rfl rfl Try.func35 (by kernel_rfl) rfl #[.int .i64 2018, .int .i64 12, .int .i64 31] rfl (by (try simp only [List.map_toArray, List.map_cons, List.map_nil]); first | done | rfl | (simp only [List.length_drop, List.length_take]; rfl)) ?_; (with_reducible refine (dayshiftlaw02_day.calls k 2018 12 31 t149 _ A1.out).mono ?_); rintro e w' ⟨rfl, ⟨nd, rfl⟩⟩; refine ⟨_, rfl, ?_⟩) | ((with_reducible refine gate_callee (f := 15) rfl ?_); refine goesL_ (some 14) rfl rfl Try.func15 (by kernel_rfl) rfl #[.int .i64 t149] rfl (by (try simp only [List.map_toArray, List.map_cons, List.map_nil]); first | done | rfl | (simp only [List.length_drop, List.length_take]; rfl)) ?_; (with_reducible refine (week_Week.calls k t149 t150 t151 t152 _ A2.out).mono ?_); rintro e w39 ⟨rfl, hb⟩; refine ⟨_, rfl, ?_⟩; have n0_ := Aside0.mk (below_step (by repeat (first | (with_reducible first | exact HB.out | apply below_alloc | apply pw_below_drewN | apply below_drew1) | exact HB.out)) hb); clear HB; have HB := n0_; clear n0_; (try clear hb); (try clear hb2); (try clear hk); (try clear hi)) | ((with_reducible refine gate_callee (f := 10) rfl ?_); refine goesL_ (some 19) rfl rfl Try.func10 (by kernel_rfl) rfl #[.int .i64 2024, .int .i64 2, .int .i64 3, .int .i64 (-1)] rfl (by (try simp only [List.map_toArray, List.map_cons, List.map_nil]); first | done | rfl | (simp only [List.length_drop, List.length_take]; rfl)) ?_; (with_reducible refine (week_Nth.calls k 2024 2 3 (-1) t153 t154 _ A3.out).mono ?_); rintro e w40 ⟨rfl, hb⟩; refine ⟨_, rfl, ?_⟩; have n0_ := Aside0.mk (below_step (by repeat (first | (with_reducible first | exact HB.out | apply below_alloc | apply pw_below_drewN | apply below_drew1) | exact HB.out)) hb); clear HB; have HB := n0_; clear n0_; (try clear hb); (try clear hb2); (try clear hk); (try clear hi)) | ((with_reducible refine gate_callee (f := 13) rfl ?_); refine goesL_ (some 23) rfl rfl Try.func13 (by kernel_rfl) rfl #[.int .i64 7439, .int .i64 240] rfl (by (try simp only [List.map_toArray, List.map_cons, List.map_nil]); first | done | rfl | (simp only [List.length_drop, List.length_take]; rfl)) ?_; (with_reducible refine (week_Order.calls 7439 240 t155 t156 _ A4.out).mono ?_); rintro e w' ⟨rfl, ⟨nd, rfl⟩⟩; refine ⟨_, rfl, ?_⟩) | ((with_reducible refine gate_callee (f := 13) rfl ?_); refine goesL_ (some 27) rfl rfl Try.func13 (by kernel_rfl) rfl #[.int .i64 7440, .int .i64 240] rfl (by (try simp only [List.map_toArray, List.map_cons, List.map_nil]); first | done | rfl | (simp only [List.length_drop, List.length_take]; rfl)) ?_; (with_reducible refine (week_Order.calls 7440 240 t157 t158 _ A5.out).mono ?_); rintro e w' ⟨rfl, ⟨nd, rfl⟩⟩; refine ⟨_, rfl, ?_⟩) | ((with_reducible refine gate_callee (f := 18) rfl ?_); refine goesL_ (some 31) rfl rfl Try.func18 (by kernel_rfl) rfl #[.string (⟨#[50, 51, 58, 53, 57]⟩ : ByteArray)] rfl (by (try simp only [List.map_toArray, List.map_cons, List.map_nil]); first | done | rfl | (simp only [List.length_drop, List.length_take]; rfl)) ?_; (with_reducible refine (week_Read.calls (⟨#[50, 51, 58, 53, 57]⟩ : ByteArray) t159 t160 _ A6.out).mono ?_); rintro e w41 ⟨rfl, hb⟩; refine ⟨_, rfl, ?_⟩; have n0_ := Aside0.mk (below_step (by repeat (first | (with_reducible first | exact HB.out | apply below_alloc | apply pw_below_drewN | apply below_drew1) | exact HB.out)) hb); clear HB; have HB := n0_; clear n0_; (try clear hb); (try clear hb2); (try clear hk); (try clear hi)) | (go_at_call 35; (with_reducible refine (dayshiftlaw02_day.calls k 2024 2 29 t161 _ A10.out).mono ?_); rintro e w' ⟨rfl, ⟨nd, rfl⟩⟩))
          go_ret
          exact ⟨by first | rfl | (simp [errW_none, errW_some] <;> rfl) | (simp [*, errW_none, errW_some] <;> rfl), by repeat (first | (with_reducible first | exact HB.out | apply below_alloc | apply pw_below_drewN | apply below_drew1) | exact HB.out)⟩
      · rw [if_neg c9] at H
        have c9b0 : (t152 == 0) = false := beq_eq_false_iff_ne.mpr c9
        have c9b1 : (t152 != 0) = true := bne_iff_ne.mpr c9
        obtain rfl := Option.some.inj H
        go_enter Try.func12, Try.ntmps12
        go_wp2_with (first | ((with_reducible refine gate_callee (f := 35) rfl ?_); refine goesL_ (some 13) rfl rfl Try.func35 (by kernel_rfl) rfl #[.int .i64 2018, .int .i64 12, .int .i64 31] rfl (by (try simp only [List.map_toArray, List.map_cons, List.map_nil]); first | done | rfl | (simp only [List.length_drop, List.length_take]; rfl)) ?_; (with_reducible refine (dayshiftlaw02_day.calls k 2018 12 31 t149 _ A1.out).mono ?_); rintro e w' ⟨rfl, ⟨nd, rfl⟩⟩; refine ⟨_, rfl, ?_⟩) | ((with_reducible refine gate_callee (f := 15) rfl ?_); refine goesL_ (some 14) rfl rfl Try.func15 (by kernel_rfl) rfl #[.int .i64 t149] rfl (by (try simp only [List.map_toArray, List.map_cons, List.map_nil]); first | done | rfl | (simp only [List.length_drop, List.length_take]; rfl)) ?_; (with_reducible refine (week_Week.calls k t149 t150 t151 t152 _ A2.out).mono ?_); rintro e w42 ⟨rfl, hb⟩; refine ⟨_, rfl, ?_⟩; have n0_ := Aside0.mk (below_step (by repeat (first | (with_reducible first | exact HB.out | apply below_alloc | apply pw_below_drewN | apply below_drew1) | exact HB.out)) hb); clear HB; have HB := n0_; clear n0_; (try clear hb); (try clear hb2); (try clear hk); (try clear hi)) | ((with_reducible refine gate_callee (f := 10) rfl ?_); refine goesL_ (some 19) rfl rfl Try.func10 (by kernel_rfl) rfl #[.int .i64 2024, .int .i64 2, .int .i64 3, .int .i64 (-1)] rfl (by (try simp only [List.map_toArray, List.map_cons, List.map_nil]); first | done | rfl | (simp only [List.length_drop, List.length_take]; rfl)) ?_; (with_reducible refine (week_Nth.calls k 2024 2 3 (-1) t153 t154 _ A3.out).mono ?_); rintro e w43 ⟨rfl, hb⟩; refine ⟨_, rfl, ?_⟩; have n0_ := Aside0.mk (below_step (by repeat (first | (with_reducible first | exact HB.out | apply below_alloc | apply pw_below_drewN | apply below_drew1) | exact HB.out)) hb); clear HB; have HB := n0_; clear n0_; (try clear hb); (try clear hb2); (try clear hk); (try clear hi)) | ((with_reducible refine gate_callee (f := 13) rfl ?_); refine goesL_ (some 23) rfl rfl Try.func13 (by kernel_rfl) rfl #[.int .i64 7439, .int .i64 240] rfl (by (try simp only [List.map_toArray, List.map_cons, List.map_nil]); first | done | rfl | (simp only [List.length_drop, List.length_take]; rfl)) ?_; (with_reducible refine (week_Order.calls 7439 240 t155 t156 _ A4.out).mono ?_); rintro e w' ⟨rfl, ⟨nd, rfl⟩⟩; refine ⟨_, rfl, ?_⟩) | ((with_reducible refine gate_callee (f := 13) rfl ?_); refine goesL_ (some 27) rfl rfl Try.func13 (by kernel_rfl) rfl #[.int .i64 7440, .int .i64 240] rfl (by (try simp only [List.map_toArray, List.map_cons, List.map_nil]); first | done | rfl | (simp only [List.length_drop, List.length_take]; rfl)) ?_; (with_reducible refine (week_Order.calls 7440 240 t157 t158 _ A5.out).mono ?_); rintro e w' ⟨rfl, ⟨nd, rfl⟩⟩; refine ⟨_, rfl, ?_⟩) | ((with_reducible refine gate_callee (f := 18) rfl ?_); refine goesL_ (some 31) rfl rfl Try.func18 (by kernel_rfl) rfl #[.string (⟨#[50, 51, 58, 53, 57]⟩ : ByteArray)] rfl (by (try simp only [List.map_toArray, List.map_cons, List.map_nil]); first | done | rfl | (simp only [List.length_drop, List.length_take]; rfl)) ?_; (with_reducible refine (week_Read.calls (⟨#[50, 51, 58, 53, 57]⟩ : ByteArray) t159 t160 _ A6.out).mono ?_); rintro e w44 ⟨rfl, hb⟩; refine ⟨_, rfl, ?_⟩; have n0_ := Aside0.mk (below_step (by repeat (first | (with_reducible first | exact HB.out | apply below_alloc | apply pw_below_drewN | apply below_drew1) | exact HB.out)) hb); clear HB; have HB := n0_; clear n0_; (try clear hb); (try clear hb2); (try clear hk); (try clear hi)))
        go_ret
        exact ⟨by first | rfl | (simp [errW_none, errW_some] <;> rfl) | (simp [*, errW_none, errW_some] <;> rfl), by repeat (first | (with_reducible first | exact HB.out | apply below_alloc | apply pw_below_drewN | apply below_drew1) | exact HB.out)⟩
    · rw [if_neg c8] at H
      have c8b0 : (t151 == 1) = false := beq_eq_false_iff_ne.mpr c8
      have c8b1 : (t151 != 1) = true := bne_iff_ne.mpr c8
      obtain rfl := Option.some.inj H
      go_enter Try.func12, Try.ntmps12
      go_wp2_with (first | ((with_reducible refine gate_callee (f := 35) rfl ?_); refine goesL_ (some 13) rfl rfl Try.func35 (by kernel_rfl) rfl #[.int .i64 2018, .int .i64 12, .int .i64 31] rfl (by (try simp only [List.map_toArray, List.map_cons, List.map_nil]); first | done | rfl | (simp only [List.length_drop, List.length_take]; rfl)) ?_; (with_reducible refine (dayshiftlaw02_day.calls k 2018 12 31 t149 _ A1.out).mono ?_); rintro e w' ⟨rfl, ⟨nd, rfl⟩⟩; refine ⟨_, rfl, ?_⟩) | ((with_reducible refine gate_callee (f := 15) rfl ?_); refine goesL_ (some 14) rfl rfl Try.func15 (by kernel_rfl) rfl #[.int .i64 t149] rfl (by (try simp only [List.map_toArray, List.map_cons, List.map_nil]); first | done | rfl | (simp only [List.length_drop, List.length_take]; rfl)) ?_; (with_reducible refine (week_Week.calls k t149 t150 t151 t152 _ A2.out).mono ?_); rintro e w45 ⟨rfl, hb⟩; refine ⟨_, rfl, ?_⟩; have n0_ := Aside0.mk (below_step (by repeat (first | (with_reducible first | exact HB.out | apply below_alloc | apply pw_below_drewN | apply below_drew1) | exact HB.out)) hb); clear HB; have HB := n0_; clear n0_; (try clear hb); (try clear hb2); (try clear hk); (try clear hi)) | ((with_reducible refine gate_callee (f := 10) rfl ?_); refine goesL_ (some 19) rfl rfl Try.func10 (by kernel_rfl) rfl #[.int .i64 2024, .int .i64 2, .int .i64 3, .int .i64 (-1)] rfl (by (try simp only [List.map_toArray, List.map_cons, List.map_nil]); first | done | rfl | (simp only [List.length_drop, List.length_take]; rfl)) ?_; (with_reducible refine (week_Nth.calls k 2024 2 3 (-1) t153 t154 _ A3.out).mono ?_); rintro e w46 ⟨rfl, hb⟩; refine ⟨_, rfl, ?_⟩; have n0_ := Aside0.mk (below_step (by repeat (first | (with_reducible first | exact HB.out | apply below_alloc | apply pw_below_drewN | apply below_drew1) | exact HB.out)) hb); clear HB; have HB := n0_; clear n0_; (try clear hb); (try clear hb2); (try clear hk); (try clear hi)) | ((with_reducible refine gate_callee (f := 13) rfl ?_); refine goesL_ (some 23) rfl rfl Try.func13 (by kernel_rfl) rfl #[.int .i64 7439, .int .i64 240] rfl (by (try simp only [List.map_toArray, List.map_cons, List.map_nil]); first | done | rfl | (simp only [List.length_drop, List.length_take]; rfl)) ?_; (with_reducible refine (week_Order.calls 7439 240 t155 t156 _ A4.out).mono ?_); rintro e w' ⟨rfl, ⟨nd, rfl⟩⟩; refine ⟨_, rfl, ?_⟩) | ((with_reducible refine gate_callee (f := 13) rfl ?_); refine goesL_ (some 27) rfl rfl Try.func13 (by kernel_rfl) rfl #[.int .i64 7440, .int .i64 240] rfl (by (try simp only [List.map_toArray, List.map_cons, List.map_nil]); first | done | rfl | (simp only [List.length_drop, List.length_take]; rfl)) ?_; (with_reducible refine (week_Order.calls 7440 240 t157 t158 _ A5.out).mono ?_); rintro e w' ⟨rfl, ⟨nd, rfl⟩⟩; refine ⟨_, rfl, ?_⟩) | ((with_reducible refine gate_callee (f := 18) rfl ?_); refine goesL_ (some 31) rfl rfl Try.func18 (by kernel_rfl) rfl #[.string (⟨#[50, 51, 58, 53, 57]⟩ : ByteArray)] rfl (by (try simp only [List.map_toArray, List.map_cons, List.map_nil]); first | done | rfl | (simp only [List.length_drop, List.length_take]; rfl)) ?_; (with_reducible refine (week_Read.calls (⟨#[50, 51, 58, 53, 57]⟩ : ByteArray) t159 t160 _ A6.out).mono ?_); rintro e w47 ⟨rfl, hb⟩; refine ⟨_, rfl, ?_⟩; have n0_ := Aside0.mk (below_step (by repeat (first | (with_reducible first | exact HB.out | apply below_alloc | apply pw_below_drewN | apply below_drew1) | exact HB.out)) hb); clear HB; have HB := n0_; clear n0_; (try clear hb); (try clear hb2); (try clear hk); (try clear hi)))
      go_ret
      exact ⟨by first | rfl | (simp [errW_none, errW_some] <;> rfl) | (simp [*, errW_none, errW_some] <;> rfl), by repeat (first | (with_reducible first | exact HB.out | apply below_alloc | apply pw_below_drewN | apply below_drew1) | exact HB.out)⟩
  · rw [if_neg c7] at H
    have c7b0 : (t150 == 2019) = false := beq_eq_false_iff_ne.mpr c7
    have c7b1 : (t150 != 2019) = true := bne_iff_ne.mpr c7
    obtain rfl := Option.some.inj H
    go_enter Try.func12, Try.ntmps12
    go_wp2_with (first | ((with_reducible refine gate_callee (f := 35) rfl ?_); refine goesL_ (some 13) rfl rfl Try.func35 (by kernel_rfl) rfl #[.int .i64 2018, .int .i64 12, .int .i64 31] rfl (by (try simp only [List.map_toArray, List.map_cons, List.map_nil]); first | done | rfl | (simp only [List.length_drop, List.length_take]; rfl)) ?_; (with_reducible refine (dayshiftlaw02_day.calls k 2018 12 31 t149 _ A1.out).mono ?_); rintro e w' ⟨rfl, ⟨nd, rfl⟩⟩; refine ⟨_, rfl, ?_⟩) | ((with_reducible refine gate_callee (f := 15) rfl ?_); refine goesL_ (some 14) rfl rfl Try.func15 (by kernel_rfl) rfl #[.int .i64 t149] rfl (by (try simp only [List.map_toArray, List.map_cons, List.map_nil]); first | done | rfl | (simp only [List.length_drop, List.length_take]; rfl)) ?_; (with_reducible refine (week_Week.calls k t149 t150 t151 t152 _ A2.out).mono ?_); rintro e w48 ⟨rfl, hb⟩; refine ⟨_, rfl, ?_⟩; have n0_ := Aside0.mk (below_step (by repeat (first | (with_reducible first | exact HB.out | apply below_alloc | apply pw_below_drewN | apply below_drew1) | exact HB.out)) hb); clear HB; have HB := n0_; clear n0_; (try clear hb); (try clear hb2); (try clear hk); (try clear hi)) | ((with_reducible refine gate_callee (f := 10) rfl ?_); refine goesL_ (some 19) rfl rfl Try.func10 (by kernel_rfl) rfl #[.int .i64 2024, .int .i64 2, .int .i64 3, .int .i64 (-1)] rfl (by (try simp only [List.map_toArray, List.map_cons, List.map_nil]); first | done | rfl | (simp only [List.length_drop, List.length_take]; rfl)) ?_; (with_reducible refine (week_Nth.calls k 2024 2 3 (-1) t153 t154 _ A3.out).mono ?_); rintro e w49 ⟨rfl, hb⟩; refine ⟨_, rfl, ?_⟩; have n0_ := Aside0.mk (below_step (by repeat (first | (with_reducible first | exact HB.out | apply below_alloc | apply pw_below_drewN | apply below_drew1) | exact HB.out)) hb); clear HB; have HB := n0_; clear n0_; (try clear hb); (try clear hb2); (try clear hk); (try clear hi)) | ((with_reducible refine gate_callee (f := 13) rfl ?_); refine goesL_ (some 23) rfl rfl Try.func13 (by kernel_rfl) rfl #[.int .i64 7439, .int .i64 240] rfl (by (try simp only [List.map_toArray, List.map_cons, List.map_nil]); first | done | rfl | (simp only [List.length_drop, List.length_take]; rfl)) ?_; (with_reducible refine (week_Order.calls 7439 240 t155 t156 _ A4.out).mono ?_); rintro e w' ⟨rfl, ⟨nd, rfl⟩⟩; refine ⟨_, rfl, ?_⟩) | ((with_reducible refine gate_callee (f := 13) rfl ?_); refine goesL_ (some 27) rfl rfl Try.func13 (by kernel_rfl) rfl #[.int .i64 7440, .int .i64 240] rfl (by (try simp only [List.map_toArray, List.map_cons, List.map_nil]); first | done | rfl | (simp only [List.length_drop, List.length_take]; rfl)) ?_; (with_reducible refine (week_Order.calls 7440 240 t157 t158 _ A5.out).mono ?_); rintro e w' ⟨rfl, ⟨nd, rfl⟩⟩; refine ⟨_, rfl, ?_⟩) | ((with_reducible refine gate_callee (f := 18) rfl ?_); refine goesL_ (some 31) rfl rfl Try.func18 (by kernel_rfl) rfl #[.string (⟨#[50, 51, 58, 53, 57]⟩ : ByteArray)] rfl (by (try simp only [List.map_toArray, List.map_cons, List.map_nil]); first | done | rfl | (simp only [List.length_drop, List.length_take]; rfl)) ?_; (with_reducible refine (week_Read.calls (⟨#[50, 51, 58, 53, 57]⟩ : ByteArray) t159 t160 _ A6.out).mono ?_); rintro e w50 ⟨rfl, hb⟩; refine ⟨_, rfl, ?_⟩; have n0_ := Aside0.mk (below_step (by repeat (first | (with_reducible first | exact HB.out | apply below_alloc | apply pw_below_drewN | apply below_drew1) | exact HB.out)) hb); clear HB; have HB := n0_; clear n0_; (try clear hb); (try clear hb2); (try clear hk); (try clear hi)))
    go_ret
    exact ⟨by first | rfl | (simp [errW_none, errW_some] <;> rfl) | (simp [*, errW_none, errW_some] <;> rfl), by repeat (first | (with_reducible first | exact HB.out | apply below_alloc | apply pw_below_drewN | apply below_drew1) | exact HB.out)⟩

/-! ### dayshiftlaw02_WeekNths: function 3 -/
def dayshiftlaw02_WeekNths.f (k : Nat) (a0 : Int) (a1 : Int) (a2 : Int) (a3 : Int) : Option (Bool) := (week_Nth.f k a0 a1 a2 a3).bind fun bt162 => ((dayshiftref02_Nth.f k a0 a1 a2 a3).bind fun bt164 => (if bt162.1 = bt164.1 then (if bt162.2 = bt164.2 then ((dayshiftlaw02_known.f k).bind fun t166 => (some t166)) else (some false)) else (some false)))
theorem dayshiftlaw02_WeekNths.mono : ∀ a0 a1 a2 a3 k, LeO (dayshiftlaw02_WeekNths.f k a0 a1 a2 a3) (dayshiftlaw02_WeekNths.f (k + 1) a0 a1 a2 a3) := by
  intro a0 a1 a2 a3 k
  unfold dayshiftlaw02_WeekNths.f
  repeat' first
      | (with_reducible exact dayshiftlaw02_known.mono _)
      | (with_reducible exact dayshiftref02_Nth.mono _ _ _ _ _)
      | (with_reducible exact week_Nth.mono _ _ _ _ _)
      | (with_reducible exact LeO.refl _)
      | (with_reducible exact LeO.none _)
      | (with_reducible refine LeO.ite ?_ ?_)
      | (with_reducible refine LeO.bind ?_ (fun _ => ?_))
      | exact dayshiftlaw02_known.mono _
      | exact dayshiftref02_Nth.mono _ _ _ _ _
      | exact week_Nth.mono _ _ _ _ _
      | exact LeO.none _
      | refine LeO.ite ?_ ?_
      | refine LeO.bind ?_ (fun _ => ?_)
set_option maxHeartbeats 8000000 in
set_option maxRecDepth 100000 in
theorem dayshiftlaw02_WeekNths.calls (k : Nat) (a0 : Int) (a1 : Int) (a2 : Int) (a3 : Int) (r : Bool) (w : World) (h : dayshiftlaw02_WeekNths.f k a0 a1 a2 a3 = some r) :
    Calls Try.prog 3 #[.int .i64 a0, .int .i64 a1, .int .i64 a2, .int .i64 a3] w fun e w' => e = .returned (.bool r) ∧ Below w.heap.size w w' := by
  have HB := Aside0.mk (Below.refl w.heap.size w)
  have H : ((week_Nth.f k a0 a1 a2 a3).bind fun bt162 => ((dayshiftref02_Nth.f k a0 a1 a2 a3).bind fun bt164 => (if bt162.1 = bt164.1 then (if bt162.2 = bt164.2 then ((dayshiftlaw02_known.f k).bind fun t166 => (some t166)) else (some false)) else (some false)))) = some r := h
  clear h
  replace H := Option.bind_eq_some_iff.mp H
  obtain ⟨⟨t162, t163⟩, A50, H⟩ := H
  replace H : ((dayshiftref02_Nth.f k a0 a1 a2 a3).bind fun bt164 => (if t162 = bt164.1 then (if t163 = bt164.2 then ((dayshiftlaw02_known.f k).bind fun t166 => (some t166)) else (some false)) else (some false))) = some r := H
  have A5 := Aside0.mk A50
  clear A50
  replace H := Option.bind_eq_some_iff.mp H
  obtain ⟨⟨t164, t165⟩, A60, H⟩ := H
  replace H : (if t162 = t164 then (if t163 = t165 then ((dayshiftlaw02_known.f k).bind fun t166 => (some t166)) else (some false)) else (some false)) = some r := H
  have A6 := Aside0.mk A60
  clear A60
  by_cases c7 : t162 = t164
  · rw [if_pos c7] at H
    have c7b0 : (t162 == t164) = true := beq_iff_eq.mpr c7
    have c7b1 : (t162 != t164) = false := bne_eq_false_iff_eq.mpr c7
    clear c7
    by_cases c8 : t163 = t165
    · rw [if_pos c8] at H
      have c8b0 : (t163 == t165) = true := beq_iff_eq.mpr c8
      have c8b1 : (t163 != t165) = false := bne_eq_false_iff_eq.mpr c8
      clear c8
      replace H := Option.bind_eq_some_iff.mp H
      obtain ⟨t166, A90, H⟩ := H
      replace H : (some t166) = some r := H
      have A9 := Aside0.mk A90
      clear A90
      obtain rfl := Option.some.inj H
      go_enter Try.func3, Try.ntmps3
      go_wp2_with (first | ((with_reducible refine gate_callee (f := 10) rfl ?_); refine goesL_ (some 18) rfl rfl Try.func10 (by kernel_rfl) rfl #[.int .i64 a0, .int .i64 a1, .int .i64 a2, .int .i64 a3] rfl (by (try simp only [List.map_toArray, List.map_cons, List.map_nil]); first | done | rfl | (simp only [List.length_drop, List.length_take]; rfl)) ?_; (with_reducible refine (week_Nth.calls k a0 a1 a2 a3 t162 t163 _ A5.out).mono ?_); rintro e w10 ⟨rfl, hb⟩; refine ⟨_, rfl, ?_⟩; have n0_ := Aside0.mk (below_step (by repeat (first | (with_reducible first | exact HB.out | apply below_alloc | apply pw_below_drewN | apply below_drew1) | exact HB.out)) hb); clear HB; have HB := n0_; clear n0_; (try clear hb); (try clear hb2); (try clear hk); (try clear hi)) | ((with_reducible refine gate_callee (f := 11) rfl ?_); refine goesL_ (some 26) rfl rfl Try.func11 (by kernel_rfl) rfl #[.int .i64 a0, .int .i64 a1, .int .i64 a2, .int .i64 a3] rfl (by (try simp only [List.map_toArray, List.map_cons, List.map_nil]); first | done | rfl | (simp only [List.length_drop, List.length_take]; rfl)) ?_; (with_reducible refine (dayshiftref02_Nth.calls k a0 a1 a2 a3 t164 t165 _ A6.out).mono ?_); rintro e w11 ⟨rfl, hb⟩; refine ⟨_, rfl, ?_⟩; have n0_ := Aside0.mk (below_step (by repeat (first | (with_reducible first | exact HB.out | apply below_alloc | apply pw_below_drewN | apply below_drew1) | exact HB.out)) hb); clear HB; have HB := n0_; clear n0_; (try clear hb); (try clear hb2); (try clear hk); (try clear hi)) | (go_at_call 12; (with_reducible refine (dayshiftlaw02_known.calls k  t166 _ A9.out).mono ?_); rintro e w12 ⟨rfl, hb⟩; have n0_ := Aside0.mk (below_step (by repeat (first | (with_reducible first | exact HB.out | apply below_alloc | apply pw_below_drewN | apply below_drew1) | exact HB.out)) hb); clear HB; have HB := n0_; clear n0_; (try clear hb); (try clear hb2); (try clear hk); (try clear hi)))
      go_ret
      exact ⟨by first | rfl | (simp [errW_none, errW_some] <;> rfl) | (simp [*, errW_none, errW_some] <;> rfl), by repeat (first | (with_reducible first | exact HB.out | apply below_alloc | apply pw_below_drewN | apply below_drew1) | exact HB.out)⟩
    · rw [if_neg c8] at H
      have c8b0 : (t163 == t165) = false := beq_eq_false_iff_ne.mpr c8
      have c8b1 : (t163 != t165) = true := bne_iff_ne.mpr c8
      obtain rfl := Option.some.inj H
      go_enter Try.func3, Try.ntmps3
      go_wp2_with (first | ((with_reducible refine gate_callee (f := 10) rfl ?_); refine goesL_ (some 18) rfl rfl Try.func10 (by kernel_rfl) rfl #[.int .i64 a0, .int .i64 a1, .int .i64 a2, .int .i64 a3] rfl (by (try simp only [List.map_toArray, List.map_cons, List.map_nil]); first | done | rfl | (simp only [List.length_drop, List.length_take]; rfl)) ?_; (with_reducible refine (week_Nth.calls k a0 a1 a2 a3 t162 t163 _ A5.out).mono ?_); rintro e w13 ⟨rfl, hb⟩; refine ⟨_, rfl, ?_⟩; have n0_ := Aside0.mk (below_step (by repeat (first | (with_reducible first | exact HB.out | apply below_alloc | apply pw_below_drewN | apply below_drew1) | exact HB.out)) hb); clear HB; have HB := n0_; clear n0_; (try clear hb); (try clear hb2); (try clear hk); (try clear hi)) | ((with_reducible refine gate_callee (f := 11) rfl ?_); refine goesL_ (some 26) rfl rfl Try.func11 (by kernel_rfl) rfl #[.int .i64 a0, .int .i64 a1, .int .i64 a2, .int .i64 a3] rfl (by (try simp only [List.map_toArray, List.map_cons, List.map_nil]); first | done | rfl | (simp only [List.length_drop, List.length_take]; rfl)) ?_; (with_reducible refine (dayshiftref02_Nth.calls k a0 a1 a2 a3 t164 t165 _ A6.out).mono ?_); rintro e w14 ⟨rfl, hb⟩; refine ⟨_, rfl, ?_⟩; have n0_ := Aside0.mk (below_step (by repeat (first | (with_reducible first | exact HB.out | apply below_alloc | apply pw_below_drewN | apply below_drew1) | exact HB.out)) hb); clear HB; have HB := n0_; clear n0_; (try clear hb); (try clear hb2); (try clear hk); (try clear hi)))
      go_ret
      exact ⟨by first | rfl | (simp [errW_none, errW_some] <;> rfl) | (simp [*, errW_none, errW_some] <;> rfl), by repeat (first | (with_reducible first | exact HB.out | apply below_alloc | apply pw_below_drewN | apply below_drew1) | exact HB.out)⟩
  · rw [if_neg c7] at H
    have c7b0 : (t162 == t164) = false := beq_eq_false_iff_ne.mpr c7
    have c7b1 : (t162 != t164) = true := bne_iff_ne.mpr c7
    obtain rfl := Option.some.inj H
    go_enter Try.func3, Try.ntmps3
    go_wp2_with (first | ((with_reducible refine gate_callee (f := 10) rfl ?_); refine goesL_ (some 18) rfl rfl Try.func10 (by kernel_rfl) rfl #[.int .i64 a0, .int .i64 a1, .int .i64 a2, .int .i64 a3] rfl (by (try simp only [List.map_toArray, List.map_cons, List.map_nil]); first | done | rfl | (simp only [List.length_drop, List.length_take]; rfl)) ?_; (with_reducible refine (week_Nth.calls k a0 a1 a2 a3 t162 t163 _ A5.out).mono ?_); rintro e w15 ⟨rfl, hb⟩; refine ⟨_, rfl, ?_⟩; have n0_ := Aside0.mk (below_step (by repeat (first | (with_reducible first | exact HB.out | apply below_alloc | apply pw_below_drewN | apply below_drew1) | exact HB.out)) hb); clear HB; have HB := n0_; clear n0_; (try clear hb); (try clear hb2); (try clear hk); (try clear hi)) | ((with_reducible refine gate_callee (f := 11) rfl ?_); refine goesL_ (some 26) rfl rfl Try.func11 (by kernel_rfl) rfl #[.int .i64 a0, .int .i64 a1, .int .i64 a2, .int .i64 a3] rfl (by (try simp only [List.map_toArray, List.map_cons, List.map_nil]); first | done | rfl | (simp only [List.length_drop, List.length_take]; rfl)) ?_; (with_reducible refine (dayshiftref02_Nth.calls k a0 a1 a2 a3 t164 t165 _ A6.out).mono ?_); rintro e w16 ⟨rfl, hb⟩; refine ⟨_, rfl, ?_⟩; have n0_ := Aside0.mk (below_step (by repeat (first | (with_reducible first | exact HB.out | apply below_alloc | apply pw_below_drewN | apply below_drew1) | exact HB.out)) hb); clear HB; have HB := n0_; clear n0_; (try clear hb); (try clear hb2); (try clear hk); (try clear hi)))
    go_ret
    exact ⟨by first | rfl | (simp [errW_none, errW_some] <;> rfl) | (simp [*, errW_none, errW_some] <;> rfl), by repeat (first | (with_reducible first | exact HB.out | apply below_alloc | apply pw_below_drewN | apply below_drew1) | exact HB.out)⟩

/-- THE ONE PURE STATEMENT of dayshiftlaw02_WeekNths: yours. -/
def dayshiftlaw02_WeekNths.Pure : Prop := ∀ (a0 : Int) (a1 : Int) (a2 : Int) (a3 : Int), (Lit.int .i64 a0).wf = true → (Lit.int .i64 a1).wf = true → (Lit.int .i64 a2).wf = true → (Lit.int .i64 a3).wf = true → ∃ k, dayshiftlaw02_WeekNths.f k a0 a1 a2 a3 = some true
theorem dayshiftlaw02_WeekNths.walk (P : dayshiftlaw02_WeekNths.Pure) (a0 : Int) (a1 : Int) (a2 : Int) (a3 : Int) (w : World) (w0 : (Lit.int .i64 a0).wf = true) (w1 : (Lit.int .i64 a1).wf = true) (w2 : (Lit.int .i64 a2).wf = true) (w3 : (Lit.int .i64 a3).wf = true) :
    Calls Try.prog 3 #[.int .i64 a0, .int .i64 a1, .int .i64 a2, .int .i64 a3] w fun e w' => e = .returned (.bool true) ∧ Below w.heap.size w w' := by
  obtain ⟨k, h⟩ := P a0 a1 a2 a3 w0 w1 w2 w3
  refine (dayshiftlaw02_WeekNths.calls k a0 a1 a2 a3 true w h).mono ?_
  rintro e w' ⟨rfl, hd⟩
  exact ⟨rfl, hd⟩

end Go.Proofs.Ytjfghphblgkoiaa.PWeekNths
