/- This text holds, for Go functions of the given program, Lean functions with the same answers, and proofs that the machine's calls come to these answers; each theorem names its own conditions. It was laid by a program of this session. -/
import Derived.Test.YtpcjbnaggeiaoaaDoorPCalMovedx0
import Derived.Test.YtpcjbnaggeiaoaaDoorPCalMovedx1
import Derived.Test.YtpcjbnaggeiaoaaDoorPCalMovedx2
import Derived.Test.YtpcjbnaggeiaoaaDoorPCalMovedx3
namespace Go.Proofs.YtpcjbnaggeiaoaaDoor.PCalMoved
open Go.RowKit Go.Proofs.YtpcjbnaggeiaoaaDoorW.PrintWords Go.Proofs.YtpcjbnaggeiaoaaDoorW.PrintLast Go.Proofs.YtpcjbnaggeiaoaaDoorW.PrintMore
attribute [local go_sem] max2_int min2_int max_two min_two max_three min_three max_four min_four   -- for this text's walks alone
set_option linter.unusedVariables false
set_option linter.unusedSimpArgs false

/-! ### cal_book_walk: function 23 -/
/-- A world behind, in which all blocks but some lie as they lay. -/
structure KB (S : Nat → Prop) (w w' : World) : Prop where
  os : w'.os = w.os
  tape : w'.tape = w.tape
  output : w'.output = w.output
  size : w.heap.size ≤ w'.heap.size
  block : ∀ k, k < w.heap.size → ¬ S k → w'.heap[k]? = w.heap[k]?
theorem KB.refl (S : Nat → Prop) (w : World) : KB S w w := ⟨rfl, rfl, rfl, Nat.le_refl _, fun _ _ _ => rfl⟩
theorem KB.trans {S S2 : Nat → Prop} {w a b : World} (h : KB S w a) (k : KB S2 a b) (hs : ∀ j, S2 j → S j ∨ w.heap.size ≤ j) : KB S w b :=
  ⟨k.os.trans h.os, k.tape.trans h.tape, k.output.trans h.output, Nat.le_trans h.size k.size, fun j hj hn => (k.block j (Nat.lt_of_lt_of_le hj h.size) (fun h2 => by rcases hs j h2 with h3 | h3; exact hn h3; omega)).trans (h.block j hj hn)⟩
theorem KB.of_below {S : Nat → Prop} {w a : World} (h : Below w.heap.size w a) : KB S w a := ⟨h.os, h.tape, h.output, h.size, fun j hj _ => h.block j hj⟩
theorem KB.then_below {S : Nat → Prop} {w a b : World} (h : KB S w a) (k : Below a.heap.size a b) : KB S w b := h.trans (KB.of_below (S := fun _ => False) k) (fun _ h => h.elim)
theorem KB.setCell {S : Nat → Prop} {w a : World} (h : KB S w a) {p : Addr} (hp : S p.block ∨ w.heap.size ≤ p.block) (v : Value) : KB S w (a.setCell p v) := by
  refine h.trans (S2 := fun j => j = p.block) ⟨rfl, rfl, rfl, by simp, fun j hj hn => ?_⟩ (fun j e => e ▸ hp)
  exact Below.heap_setCell a p v j hn
theorem KB.blk {S : Nat → Prop} {w a : World} (h : KB S w a) {g : Nat} {o : Obj} (hb : w.heap[g]? = some o) (hn : ¬ S g) : a.heap[g]? = some o := (h.block g (blk_lt hb) hn).trans hb
theorem KB.below {S : Nat → Prop} {w0 w a : World} (h : KB S w a) (k : Below w0.heap.size w0 w) (hs : ∀ j, S j → w0.heap.size ≤ j) : Below w0.heap.size w0 a :=
  ⟨h.os.trans k.os, h.tape.trans k.tape, h.output.trans k.output, Nat.le_trans k.size h.size, fun j hj => (h.block j (Nat.lt_of_lt_of_le hj k.size) (fun h2 => by have := hs j h2; omega)).trans (k.block j hj)⟩
theorem KB.alloc {S : Nat → Prop} {w a : World} (h : KB S w a) (o : Obj) : KB S w (a.alloc o) := h.then_below (below_alloc (Below.refl _ _) o)
theorem below_of_drew {w b : World} (h : Below w.drew.heap.size w.drew b) : Below w.heap.size w b := ⟨h.os, h.tape, h.output, h.size, h.block⟩
mutual
def cal_book_walk.f : Nat → List S48 → Int → S31 → Int → Bool → Option (Int × Int)
  | 0, _, _, _, _, _ => none
  | k + 1, l, met, n, refs, work =>
    if wrap64 (met + 1) > 256 then some (23, wrap64 (met + 1)) else
    if n.f0 = 5 then
      if work = true then some (23, wrap64 (met + 1)) else
      (cal_Find.f l n.f3).bind fun i => if i < 0 then some (21, wrap64 (met + 1)) else if refs = 24 then some (23, wrap64 (met + 1)) else if i < (l.length : Int) then cal_book_walk.f k l (wrap64 (met + 1)) (rd_T48 l i).f1 (wrap64 (refs + 1)) true else none
    else if n.f0 = 10 then
      (cal_Find.f l n.f3).bind fun i => if i < 0 then some (21, wrap64 (met + 1)) else if refs = 24 then some (23, wrap64 (met + 1)) else if i < (l.length : Int) then cal_book_walk.f k l (wrap64 (met + 1)) (rd_T48 l i).f1 (wrap64 (refs + 1)) work else none
    else cal_book_walk.l0 k l (wrap64 (met + 1)) n.f2 0 refs work
def cal_book_walk.l0 : Nat → List S48 → Int → List S31 → Int → Int → Bool → Option (Int × Int)
  | 0, _, _, _, _, _, _ => none
  | k + 1, l, met, ks, i, refs, work =>
    if i < (ks.length : Int) then (if 0 ≤ i then (cal_book_walk.f k l met (rd_T31 ks i) refs work).bind fun t => if t.1 = 0 then cal_book_walk.l0 k l t.2 ks (wrap64 (i + 1)) refs work else some t else none)
    else some (0, met)
end
set_option maxHeartbeats 8000000 in
set_option maxRecDepth 100000 in
theorem cal_book_walk.calls (k : Nat) : ∀ (bb : Nat) (A0 : Option Addr) (c0 : Nat) (l : List S48) (mv : Value) (met : Int) (n : S31) (A1 : Option Addr) (c1 : Nat) (A2 : Option Addr) (c2 : Nat) (refs : Int) (work : Bool) (r1 r2 : Int) (w0 w : World)
    (hb : Below w0.heap.size w0 w) (hbb : w0.heap.size ≤ bb) (hbk : w.heap[bb]? = some (.cells #[.slice A0 l.length c0, mv, .int .i64 met] 58 (0, 0)))
    (hl : Kd.C k48 w0 A0 l.length l) (hlc : l.length ≤ c0) (h1 : (Kd.int .i64).C w0 A1 n.f1.length n.f1) (h1c : n.f1.length ≤ c1) (h2 : k31.C w0 A2 n.f2.length n.f2) (h2c : n.f2.length ≤ c2)
    (h : cal_book_walk.f k l met n refs work = some (r1, r2)),
    Calls Tryd.prog 23 #[.pointer (some ⟨bb, 0, none⟩), .agg #[.int .i64 n.f0, .slice A1 n.f1.length c1, .slice A2 n.f2.length c2, .string n.f3], .int .i64 refs, .bool work] w fun e w' => e = .returned (.int .i64 r1) ∧ w'.heap[bb]? = some (.cells #[.slice A0 l.length c0, mv, .int .i64 r2] 58 (0, 0)) ∧ KB (fun j => j = bb) w w' := by
  induction k using Nat.strongRecOn with
  | _ k ihs =>
  cases k with
  | zero => intro _ _ _ _ _ _ _ _ _ _ _ _ _ _ _ _ _ _ _ _ _ _ _ _ _ _ h; exact absurd h (by simp [cal_book_walk.f])
  | succ k =>
  intro bb A0 c0 l mv met n A1 c1 A2 c2 refs work r1 r2 w0 w hb hbb hbk hl hlc h1 h1c h2 h2c h
  rw [cal_book_walk.f.eq_2] at h
  have hlt := blk_lt hbk
  have b0 := blk_cell hbk 0
  have b1 := blk_cell hbk 1
  have b2 := blk_cell hbk 2
  have f2 := blk_frozen hbk 2
  simp only [List.getElem?_toArray, List.getElem?_cons_zero, List.getElem?_cons_succ] at b0 b1 b2
  by_cases q1 : wrap64 (met + 1) > 256
  · rw [if_pos q1] at h
    obtain ⟨rfl, rfl⟩ := Prod.mk.inj (Option.some.inj h)
    clear h
    go_enter Tryd.func23, Tryd.ntmps23
    go_wp2
    go_ret
    refine ⟨rfl, ?_, ?_⟩
    · exact blk_alloc (blk_set hbk 2 _) _
    · exact ((KB.refl (fun j => j = bb) w).setCell (p := ⟨bb, 2, none⟩) (.inl rfl) _).alloc _
  rw [if_neg q1] at h
  have q1b : decide (256 < wrap64 (met + 1)) = false := decide_eq_false q1
  by_cases q2 : n.f0 = 5
  · rw [if_pos q2] at h
    have q2b : (n.f0 == 5) = true := beq_iff_eq.mpr q2
    cases work with
    | true =>
      rw [if_pos rfl] at h
      obtain ⟨rfl, rfl⟩ := Prod.mk.inj (Option.some.inj h)
      clear h
      go_enter Tryd.func23, Tryd.ntmps23
      go_wp2
      go_ret
      refine ⟨rfl, ?_, ?_⟩
      · exact blk_alloc (blk_set hbk 2 _) _
      · exact ((KB.refl (fun j => j = bb) w).setCell (p := ⟨bb, 2, none⟩) (.inl rfl) _).alloc _
    | false =>
      rw [if_neg (by decide)] at h
      obtain ⟨i, hi, h⟩ := Option.bind_eq_some_iff.mp h
      have hfind := fun (W : World) (hW : Below w0.heap.size w0 W) => cal_Find.calls A0 c0 l n.f3 i W (Kd.C_below hl hW) hlc hi
      by_cases d1 : i < 0
      · rw [if_pos d1] at h
        obtain ⟨rfl, rfl⟩ := Prod.mk.inj (Option.some.inj h)
        have d1b : decide (i < 0) = true := decide_eq_true d1
        clear h
        go_enter Tryd.func23, Tryd.ntmps23
        go_wp2
        obtain ⟨W, hW⟩ : ∃ W, W = (w.setCell ⟨bb, 2, none⟩ (.int .i64 (wrap64 (met + 1)))).alloc (Obj.cells #[.int .i64 5, .slice A1 n.f1.length c1, .slice A2 n.f2.length c2, .string n.f3] 31 (0, 0)) := ⟨_, rfl⟩
        rw [← hW]
        have gk : W.heap[bb]? = some (.cells #[.slice A0 l.length c0, mv, .int .i64 (wrap64 (met + 1))] 58 (0, 0)) := by rw [hW]; exact blk_alloc (blk_set hbk 2 _) _
        have gn : W.heap[w.heap.size]? = some (.cells #[.int .i64 5, .slice A1 n.f1.length c1, .slice A2 n.f2.length c2, .string n.f3] 31 (0, 0)) := by
          rw [hW]
          have := blk_new (w.setCell ⟨bb, 2, none⟩ (.int .i64 (wrap64 (met + 1)))) (Obj.cells #[.int .i64 5, .slice A1 n.f1.length c1, .slice A2 n.f2.length c2, .string n.f3] 31 (0, 0))
          rwa [show (w.setCell ⟨bb, 2, none⟩ (.int .i64 (wrap64 (met + 1)))).heap.size = w.heap.size from by simp] at this
        have gkb : KB (fun j => j = bb) w W := by rw [hW]; exact ((KB.refl (fun j => j = bb) w).setCell (p := ⟨bb, 2, none⟩) (.inl rfl) _).alloc _
        clear hW b0 b1 b2 f2
        have b0 : W.cell? ⟨bb, 0, none⟩ = _ := blk_cell gk 0
        have b3 : W.cell? ⟨w.heap.size, 3, none⟩ = _ := blk_cell gn 3
        simp only [List.getElem?_toArray, List.getElem?_cons_zero, List.getElem?_cons_succ] at b0 b3
        have gks := Aside0.mk gk
        have gns := Aside0.mk gn
        have gkbs := Aside0.mk gkb
        clear gk gkb gn hbk hlt
        go_still_tail 6, (by kernel_rfl)
        change wpList _ _ _ _ _ W.drew
        go_wp2_with (go_at_call 31; refine (hfind W.drew (below_drew1 (gkbs.out.below hb (fun j e => e ▸ hbb)))).mono ?_; rintro e w1 ⟨rfl, hb1⟩)
        go_ret
        refine ⟨rfl, ?_, ?_⟩
        · exact (hb1.block bb (blk_lt gks.out)).trans gks.out
        · exact gkbs.out.then_below (below_of_drew hb1)
      rw [if_neg d1] at h
      have d1b : decide (i < 0) = false := decide_eq_false d1
      by_cases d2 : refs = 24
      · rw [if_pos d2] at h
        obtain ⟨rfl, rfl⟩ := Prod.mk.inj (Option.some.inj h)
        have d2b : (refs == 24) = true := beq_iff_eq.mpr d2
        clear h
        go_enter Tryd.func23, Tryd.ntmps23
        go_wp2
        obtain ⟨W, hW⟩ : ∃ W, W = (w.setCell ⟨bb, 2, none⟩ (.int .i64 (wrap64 (met + 1)))).alloc (Obj.cells #[.int .i64 5, .slice A1 n.f1.length c1, .slice A2 n.f2.length c2, .string n.f3] 31 (0, 0)) := ⟨_, rfl⟩
        rw [← hW]
        have gk : W.heap[bb]? = some (.cells #[.slice A0 l.length c0, mv, .int .i64 (wrap64 (met + 1))] 58 (0, 0)) := by rw [hW]; exact blk_alloc (blk_set hbk 2 _) _
        have gn : W.heap[w.heap.size]? = some (.cells #[.int .i64 5, .slice A1 n.f1.length c1, .slice A2 n.f2.length c2, .string n.f3] 31 (0, 0)) := by
          rw [hW]
          have := blk_new (w.setCell ⟨bb, 2, none⟩ (.int .i64 (wrap64 (met + 1)))) (Obj.cells #[.int .i64 5, .slice A1 n.f1.length c1, .slice A2 n.f2.length c2, .string n.f3] 31 (0, 0))
          rwa [show (w.setCell ⟨bb, 2, none⟩ (.int .i64 (wrap64 (met + 1)))).heap.size = w.heap.size from by simp] at this
        have gkb : KB (fun j => j = bb) w W := by rw [hW]; exact ((KB.refl (fun j => j = bb) w).setCell (p := ⟨bb, 2, none⟩) (.inl rfl) _).alloc _
        clear hW b0 b1 b2 f2
        have b0 : W.cell? ⟨bb, 0, none⟩ = _ := blk_cell gk 0
        have b3 : W.cell? ⟨w.heap.size, 3, none⟩ = _ := blk_cell gn 3
        simp only [List.getElem?_toArray, List.getElem?_cons_zero, List.getElem?_cons_succ] at b0 b3
        have gks := Aside0.mk gk
        have gns := Aside0.mk gn
        have gkbs := Aside0.mk gkb
        clear gk gkb gn hbk hlt
        go_still_tail 6, (by kernel_rfl)
        change wpList _ _ _ _ _ W.drew
        go_wp2_with (go_at_call 31; refine (hfind W.drew (below_drew1 (gkbs.out.below hb (fun j e => e ▸ hbb)))).mono ?_; rintro e w1 ⟨rfl, hb1⟩)
        go_ret
        refine ⟨rfl, ?_, ?_⟩
        · exact (hb1.block bb (blk_lt gks.out)).trans gks.out
        · exact gkbs.out.then_below (below_of_drew hb1)
      rw [if_neg d2] at h
      have d2b : (refs == 24) = false := beq_eq_false_iff_ne.mpr d2
      by_cases d3 : i < (l.length : Int)
      · rw [if_pos d3] at h
        have d4 : 0 ≤ i := by omega
        obtain ⟨ad, A3, c3', A4, c4', e, x0, y0, y1, y2, y3, l3, g3, l4, g4⟩ := at_T48 hl i d4 d3
        cases e
        have hblk := World.block_lt_of_cell? w0 _ x0
        have hcall := fun (W : World) (hW : KB (fun j => j = bb) w W) (hk : W.heap[bb]? = some (.cells #[.slice (some ad) l.length c0, mv, .int .i64 (wrap64 (met + 1))] 58 (0, 0))) => ihs k (Nat.lt_succ_self _) bb (some ad) c0 l mv (wrap64 (met + 1)) (rd_T48 l i).f1 A3 c3' A4 c4' (wrap64 (refs + 1)) true r1 r2 w0 W (hW.below hb (fun j e => e ▸ hbb)) hbb hk hl hlc g3 l3 g4 l4 h
        have hcell := fun (W : World) (hW : Below w0.heap.size w0 W) (j : Nat) (v : Value) (hv : w0.cell? ⟨(ad.add (i.toNat * 5)).block, (ad.add (i.toNat * 5)).off + j, none⟩ = some v) => (hW.cell (p := ⟨(ad.add (i.toNat * 5)).block, (ad.add (i.toNat * 5)).off + j, none⟩) hblk).trans hv
        have Y0 := Aside0.mk y0
        have Y1 := Aside0.mk y1
        have Y2 := Aside0.mk y2
        have Y3 := Aside0.mk y3
        clear g3 g4 ihs y0 y1 y2 y3 x0 h
        have d3b : decide (i < (l.length : Int)) = true := decide_eq_true d3
        have d4b : decide (0 ≤ i) = true := decide_eq_true d4
        go_enter Tryd.func23, Tryd.ntmps23
        go_wp2
        obtain ⟨W, hW⟩ : ∃ W, W = (w.setCell ⟨bb, 2, none⟩ (.int .i64 (wrap64 (met + 1)))).alloc (Obj.cells #[.int .i64 5, .slice A1 n.f1.length c1, .slice A2 n.f2.length c2, .string n.f3] 31 (0, 0)) := ⟨_, rfl⟩
        rw [← hW]
        have gk : W.heap[bb]? = some (.cells #[.slice (some ad) l.length c0, mv, .int .i64 (wrap64 (met + 1))] 58 (0, 0)) := by rw [hW]; exact blk_alloc (blk_set hbk 2 _) _
        have gn : W.heap[w.heap.size]? = some (.cells #[.int .i64 5, .slice A1 n.f1.length c1, .slice A2 n.f2.length c2, .string n.f3] 31 (0, 0)) := by
          rw [hW]
          have := blk_new (w.setCell ⟨bb, 2, none⟩ (.int .i64 (wrap64 (met + 1)))) (Obj.cells #[.int .i64 5, .slice A1 n.f1.length c1, .slice A2 n.f2.length c2, .string n.f3] 31 (0, 0))
          rwa [show (w.setCell ⟨bb, 2, none⟩ (.int .i64 (wrap64 (met + 1)))).heap.size = w.heap.size from by simp] at this
        have gkb : KB (fun j => j = bb) w W := by rw [hW]; exact ((KB.refl (fun j => j = bb) w).setCell (p := ⟨bb, 2, none⟩) (.inl rfl) _).alloc _
        clear hW b0 b1 b2 f2
        have b0 : W.cell? ⟨bb, 0, none⟩ = _ := blk_cell gk 0
        have b3 : W.cell? ⟨w.heap.size, 3, none⟩ = _ := blk_cell gn 3
        simp only [List.getElem?_toArray, List.getElem?_cons_zero, List.getElem?_cons_succ] at b0 b3
        have gks := Aside0.mk gk
        have gns := Aside0.mk gn
        have gkbs := Aside0.mk gkb
        clear gk gkb gn hbk hlt
        go_still_tail 6, (by kernel_rfl)
        change wpList _ _ _ _ _ W.drew
        go_wp2_with (go_at_call 31; refine (hfind W.drew (below_drew1 (gkbs.out.below hb (fun j e => e ▸ hbb)))).mono ?_; rintro e w1 ⟨rfl, hb1⟩; have hk1 : w1.heap[bb]? = some (.cells #[.slice (some ad) l.length c0, mv, .int .i64 (wrap64 (met + 1))] 58 (0, 0)) := (hb1.block bb (blk_lt gks.out)).trans gks.out; have hn1 : w1.heap[w.heap.size]? = some (.cells #[.int .i64 5, .slice A1 n.f1.length c1, .slice A2 n.f2.length c2, .string n.f3] 31 (0, 0)) := (hb1.block _ (blk_lt gns.out)).trans gns.out; have hkb1 : KB (fun j => j = bb) w w1 := gkbs.out.then_below (below_of_drew hb1); clear b0 b3; have b0 : w1.cell? ⟨bb, 0, none⟩ = _ := blk_cell hk1 0; have b3 : w1.cell? ⟨w.heap.size, 0, none⟩ = _ := blk_cell hn1 0; simp only [List.getElem?_toArray, List.getElem?_cons_zero, List.getElem?_cons_succ] at b0 b3; have hbw := hkb1.below hb (fun j e => e ▸ hbb); have y0 := hcell w1 hbw 1 _ Y0.out; have y1 := hcell w1 hbw 2 _ Y1.out; have y2 := hcell w1 hbw 3 _ Y2.out; have y3 := hcell w1 hbw 4 _ Y3.out; have HK1 := Aside0.mk hk1; have HKB1 := Aside0.mk hkb1; clear hk1 hn1 hkb1 hb1 hbw)
        go_still_tail 17, (by kernel_rfl)
        change wpList _ _ _ _ _ w1.drew
        go_wp2_with (go_at_call 23; refine (hcall w1.drew ⟨HKB1.out.os, HKB1.out.tape, HKB1.out.output, HKB1.out.size, HKB1.out.block⟩ HK1.out).mono ?_; rintro e w2 ⟨rfl, hk2, hkb2⟩)
        go_ret
        exact ⟨rfl, hk2, HKB1.out.trans ⟨hkb2.os, hkb2.tape, hkb2.output, hkb2.size, hkb2.block⟩ (fun j h => .inl h)⟩
      · rw [if_neg d3] at h
        cases h
  rw [if_neg q2] at h
  have q2b : (n.f0 == 5) = false := beq_eq_false_iff_ne.mpr q2
  by_cases q3 : n.f0 = 10
  · rw [if_pos q3] at h
    have q3b : (n.f0 == 10) = true := beq_iff_eq.mpr q3
    obtain ⟨i, hi, h⟩ := Option.bind_eq_some_iff.mp h
    have hfind := fun (W : World) (hW : Below w0.heap.size w0 W) => cal_Find.calls A0 c0 l n.f3 i W (Kd.C_below hl hW) hlc hi
    by_cases d1 : i < 0
    · rw [if_pos d1] at h
      obtain ⟨rfl, rfl⟩ := Prod.mk.inj (Option.some.inj h)
      have d1b : decide (i < 0) = true := decide_eq_true d1
      clear h
      go_enter Tryd.func23, Tryd.ntmps23
      go_wp2
      obtain ⟨W, hW⟩ : ∃ W, W = (w.setCell ⟨bb, 2, none⟩ (.int .i64 (wrap64 (met + 1)))).alloc (Obj.cells #[.int .i64 10, .slice A1 n.f1.length c1, .slice A2 n.f2.length c2, .string n.f3] 31 (0, 0)) := ⟨_, rfl⟩
      rw [← hW]
      have gk : W.heap[bb]? = some (.cells #[.slice A0 l.length c0, mv, .int .i64 (wrap64 (met + 1))] 58 (0, 0)) := by rw [hW]; exact blk_alloc (blk_set hbk 2 _) _
      have gn : W.heap[w.heap.size]? = some (.cells #[.int .i64 10, .slice A1 n.f1.length c1, .slice A2 n.f2.length c2, .string n.f3] 31 (0, 0)) := by
        rw [hW]
        have := blk_new (w.setCell ⟨bb, 2, none⟩ (.int .i64 (wrap64 (met + 1)))) (Obj.cells #[.int .i64 10, .slice A1 n.f1.length c1, .slice A2 n.f2.length c2, .string n.f3] 31 (0, 0))
        rwa [show (w.setCell ⟨bb, 2, none⟩ (.int .i64 (wrap64 (met + 1)))).heap.size = w.heap.size from by simp] at this
      have gkb : KB (fun j => j = bb) w W := by rw [hW]; exact ((KB.refl (fun j => j = bb) w).setCell (p := ⟨bb, 2, none⟩) (.inl rfl) _).alloc _
      clear hW b0 b1 b2 f2
      have b0 : W.cell? ⟨bb, 0, none⟩ = _ := blk_cell gk 0
      have b3 : W.cell? ⟨w.heap.size, 3, none⟩ = _ := blk_cell gn 3
      simp only [List.getElem?_toArray, List.getElem?_cons_zero, List.getElem?_cons_succ] at b0 b3
      have gks := Aside0.mk gk
      have gns := Aside0.mk gn
      have gkbs := Aside0.mk gkb
      clear gk gkb gn hbk hlt
      go_still_tail 6, (by kernel_rfl)
      change wpList _ _ _ _ _ W.drew
      go_wp2_with (go_at_call 31; refine (hfind W.drew (below_drew1 (gkbs.out.below hb (fun j e => e ▸ hbb)))).mono ?_; rintro e w1 ⟨rfl, hb1⟩)
      go_ret
      refine ⟨rfl, ?_, ?_⟩
      · exact (hb1.block bb (blk_lt gks.out)).trans gks.out
      · exact gkbs.out.then_below (below_of_drew hb1)
    rw [if_neg d1] at h
    have d1b : decide (i < 0) = false := decide_eq_false d1
    by_cases d2 : refs = 24
    · rw [if_pos d2] at h
      obtain ⟨rfl, rfl⟩ := Prod.mk.inj (Option.some.inj h)
      have d2b : (refs == 24) = true := beq_iff_eq.mpr d2
      clear h
      go_enter Tryd.func23, Tryd.ntmps23
      go_wp2
      obtain ⟨W, hW⟩ : ∃ W, W = (w.setCell ⟨bb, 2, none⟩ (.int .i64 (wrap64 (met + 1)))).alloc (Obj.cells #[.int .i64 10, .slice A1 n.f1.length c1, .slice A2 n.f2.length c2, .string n.f3] 31 (0, 0)) := ⟨_, rfl⟩
      rw [← hW]
      have gk : W.heap[bb]? = some (.cells #[.slice A0 l.length c0, mv, .int .i64 (wrap64 (met + 1))] 58 (0, 0)) := by rw [hW]; exact blk_alloc (blk_set hbk 2 _) _
      have gn : W.heap[w.heap.size]? = some (.cells #[.int .i64 10, .slice A1 n.f1.length c1, .slice A2 n.f2.length c2, .string n.f3] 31 (0, 0)) := by
        rw [hW]
        have := blk_new (w.setCell ⟨bb, 2, none⟩ (.int .i64 (wrap64 (met + 1)))) (Obj.cells #[.int .i64 10, .slice A1 n.f1.length c1, .slice A2 n.f2.length c2, .string n.f3] 31 (0, 0))
        rwa [show (w.setCell ⟨bb, 2, none⟩ (.int .i64 (wrap64 (met + 1)))).heap.size = w.heap.size from by simp] at this
      have gkb : KB (fun j => j = bb) w W := by rw [hW]; exact ((KB.refl (fun j => j = bb) w).setCell (p := ⟨bb, 2, none⟩) (.inl rfl) _).alloc _
      clear hW b0 b1 b2 f2
      have b0 : W.cell? ⟨bb, 0, none⟩ = _ := blk_cell gk 0
      have b3 : W.cell? ⟨w.heap.size, 3, none⟩ = _ := blk_cell gn 3
      simp only [List.getElem?_toArray, List.getElem?_cons_zero, List.getElem?_cons_succ] at b0 b3
      have gks := Aside0.mk gk
      have gns := Aside0.mk gn
      have gkbs := Aside0.mk gkb
      clear gk gkb gn hbk hlt
      go_still_tail 6, (by kernel_rfl)
      change wpList _ _ _ _ _ W.drew
      go_wp2_with (go_at_call 31; refine (hfind W.drew (below_drew1 (gkbs.out.below hb (fun j e => e ▸ hbb)))).mono ?_; rintro e w1 ⟨rfl, hb1⟩)
      go_ret
      refine ⟨rfl, ?_, ?_⟩
      · exact (hb1.block bb (blk_lt gks.out)).trans gks.out
      · exact gkbs.out.then_below (below_of_drew hb1)
    rw [if_neg d2] at h
    have d2b : (refs == 24) = false := beq_eq_false_iff_ne.mpr d2
    by_cases d3 : i < (l.length : Int)
    · rw [if_pos d3] at h
      have d4 : 0 ≤ i := by omega
      obtain ⟨ad, A3, c3', A4, c4', e, x0, y0, y1, y2, y3, l3, g3, l4, g4⟩ := at_T48 hl i d4 d3
      cases e
      have hblk := World.block_lt_of_cell? w0 _ x0
      have hcall := fun (W : World) (hW : KB (fun j => j = bb) w W) (hk : W.heap[bb]? = some (.cells #[.slice (some ad) l.length c0, mv, .int .i64 (wrap64 (met + 1))] 58 (0, 0))) => ihs k (Nat.lt_succ_self _) bb (some ad) c0 l mv (wrap64 (met + 1)) (rd_T48 l i).f1 A3 c3' A4 c4' (wrap64 (refs + 1)) work r1 r2 w0 W (hW.below hb (fun j e => e ▸ hbb)) hbb hk hl hlc g3 l3 g4 l4 h
      have hcell := fun (W : World) (hW : Below w0.heap.size w0 W) (j : Nat) (v : Value) (hv : w0.cell? ⟨(ad.add (i.toNat * 5)).block, (ad.add (i.toNat * 5)).off + j, none⟩ = some v) => (hW.cell (p := ⟨(ad.add (i.toNat * 5)).block, (ad.add (i.toNat * 5)).off + j, none⟩) hblk).trans hv
      have Y0 := Aside0.mk y0
      have Y1 := Aside0.mk y1
      have Y2 := Aside0.mk y2
      have Y3 := Aside0.mk y3
      clear g3 g4 ihs y0 y1 y2 y3 x0 h
      have d3b : decide (i < (l.length : Int)) = true := decide_eq_true d3
      have d4b : decide (0 ≤ i) = true := decide_eq_true d4
      cases work
      all_goals
        go_enter Tryd.func23, Tryd.ntmps23
        go_wp2
        obtain ⟨W, hW⟩ : ∃ W, W = (w.setCell ⟨bb, 2, none⟩ (.int .i64 (wrap64 (met + 1)))).alloc (Obj.cells #[.int .i64 10, .slice A1 n.f1.length c1, .slice A2 n.f2.length c2, .string n.f3] 31 (0, 0)) := ⟨_, rfl⟩
        rw [← hW]
        have gk : W.heap[bb]? = some (.cells #[.slice (some ad) l.length c0, mv, .int .i64 (wrap64 (met + 1))] 58 (0, 0)) := by rw [hW]; exact blk_alloc (blk_set hbk 2 _) _
        have gn : W.heap[w.heap.size]? = some (.cells #[.int .i64 10, .slice A1 n.f1.length c1, .slice A2 n.f2.length c2, .string n.f3] 31 (0, 0)) := by
          rw [hW]
          have := blk_new (w.setCell ⟨bb, 2, none⟩ (.int .i64 (wrap64 (met + 1)))) (Obj.cells #[.int .i64 10, .slice A1 n.f1.length c1, .slice A2 n.f2.length c2, .string n.f3] 31 (0, 0))
          rwa [show (w.setCell ⟨bb, 2, none⟩ (.int .i64 (wrap64 (met + 1)))).heap.size = w.heap.size from by simp] at this
        have gkb : KB (fun j => j = bb) w W := by rw [hW]; exact ((KB.refl (fun j => j = bb) w).setCell (p := ⟨bb, 2, none⟩) (.inl rfl) _).alloc _
        clear hW b0 b1 b2 f2
        have b0 : W.cell? ⟨bb, 0, none⟩ = _ := blk_cell gk 0
        have b3 : W.cell? ⟨w.heap.size, 3, none⟩ = _ := blk_cell gn 3
        simp only [List.getElem?_toArray, List.getElem?_cons_zero, List.getElem?_cons_succ] at b0 b3
        have gks := Aside0.mk gk
        have gns := Aside0.mk gn
        have gkbs := Aside0.mk gkb
        clear gk gkb gn hbk hlt
        go_still_tail 6, (by kernel_rfl)
        change wpList _ _ _ _ _ W.drew
        go_wp2_with (go_at_call 31; refine (hfind W.drew (below_drew1 (gkbs.out.below hb (fun j e => e ▸ hbb)))).mono ?_; rintro e w1 ⟨rfl, hb1⟩; have hk1 : w1.heap[bb]? = some (.cells #[.slice (some ad) l.length c0, mv, .int .i64 (wrap64 (met + 1))] 58 (0, 0)) := (hb1.block bb (blk_lt gks.out)).trans gks.out; have hn1 : w1.heap[w.heap.size]? = some (.cells #[.int .i64 10, .slice A1 n.f1.length c1, .slice A2 n.f2.length c2, .string n.f3] 31 (0, 0)) := (hb1.block _ (blk_lt gns.out)).trans gns.out; have hkb1 : KB (fun j => j = bb) w w1 := gkbs.out.then_below (below_of_drew hb1); clear b0 b3; have b0 : w1.cell? ⟨bb, 0, none⟩ = _ := blk_cell hk1 0; have b3 : w1.cell? ⟨w.heap.size, 0, none⟩ = _ := blk_cell hn1 0; simp only [List.getElem?_toArray, List.getElem?_cons_zero, List.getElem?_cons_succ] at b0 b3; have hbw := hkb1.below hb (fun j e => e ▸ hbb); have y0 := hcell w1 hbw 1 _ Y0.out; have y1 := hcell w1 hbw 2 _ Y1.out; have y2 := hcell w1 hbw 3 _ Y2.out; have y3 := hcell w1 hbw 4 _ Y3.out; have HK1 := Aside0.mk hk1; have HKB1 := Aside0.mk hkb1; clear hk1 hn1 hkb1 hb1 hbw)
        go_still_tail 17, (by kernel_rfl)
        change wpList _ _ _ _ _ w1.drew
        go_wp2_with (go_at_call 23; refine (hcall w1.drew ⟨HKB1.out.os, HKB1.out.tape, HKB1.out.output, HKB1.out.size, HKB1.out.block⟩ HK1.out).mono ?_; rintro e w2 ⟨rfl, hk2, hkb2⟩)
        go_ret
        exact ⟨rfl, hk2, HKB1.out.trans ⟨hkb2.os, hkb2.tape, hkb2.output, hkb2.size, hkb2.block⟩ (fun j h => .inl h)⟩
    · rw [if_neg d3] at h
      cases h
  rw [if_neg q3] at h
  have q3b : (n.f0 == 10) = false := beq_eq_false_iff_ne.mpr q3
  have HA := Aside0.mk h
  have HB := Aside0.mk hb
  have HL := Aside0.mk hl
  have H2 := Aside0.mk h2
  have H1 := Aside0.mk h1
  clear h hb hl h2 h1
  go_enter Tryd.func23, Tryd.ntmps23
  go_wp2
  go_loopg [75] k (fun kq v75 w' => ∃ (x75 m1 : Int), v75 = .int .i64 x75 ∧ Aside0 (cal_book_walk.l0 kq l m1 n.f2 x75 refs work = some (r1, r2)) ∧ Aside0 (kq ≤ k) ∧ Aside0 (w'.heap[bb]? = some (.cells #[.slice A0 l.length c0, mv, .int .i64 m1] 58 (0, 0))) ∧ Aside0 (KB (fun j => j = bb) w w'))
  case atStart => exact ⟨0, wrap64 (met + 1), rfl, HA, ⟨Nat.le_refl _⟩, ⟨blk_alloc (blk_set hbk 2 _) _⟩, ⟨((KB.refl (fun j => j = bb) w).setCell (p := ⟨bb, 2, none⟩) (.inl rfl) _).alloc _⟩⟩
  case round =>
    obtain ⟨x75, m1, rfl, HR, HK, HBK, HKB⟩ := hrel
    have HBw := Aside0.mk (HKB.out.below HB.out (fun j e => e ▸ hbb))
    clear HA
    cases gk with
    | zero => exact absurd HR.out (by simp [cal_book_walk.l0])
    | succ k1 =>
      have H := HR.out
      clear HR
      rw [cal_book_walk.l0.eq_2] at H
      by_cases c : x75 < (n.f2.length : Int)
      · rw [if_pos c] at H
        by_cases c' : 0 ≤ x75
        · rw [if_pos c'] at H
          obtain ⟨t, ht, H⟩ := Option.bind_eq_some_iff.mp H
          obtain ⟨ad, A3, c3, A4, c4, e, y0, y1, y2, y3, l3, g3, l4, g4⟩ := at_T31 H2.out x75 c' c
          cases e
          have hblk := World.block_lt_of_cell? w0 _ y0
          replace y0 := (HBw.out.cell hblk).trans y0
          replace y1 := (HBw.out.cell (p := ⟨(ad.add (x75.toNat * 4)).block, (ad.add (x75.toNat * 4)).off + 1, none⟩) hblk).trans y1
          replace y2 := (HBw.out.cell (p := ⟨(ad.add (x75.toNat * 4)).block, (ad.add (x75.toNat * 4)).off + 2, none⟩) hblk).trans y2
          replace y3 := (HBw.out.cell (p := ⟨(ad.add (x75.toNat * 4)).block, (ad.add (x75.toNat * 4)).off + 3, none⟩) hblk).trans y3
          have hcall := fun (W : World) (hW : Below wr.heap.size wr W) (hk : W.heap[bb]? = some (.cells #[.slice A0 l.length c0, mv, .int .i64 m1] 58 (0, 0))) => ihs k1 (by have := HK.out; omega) bb A0 c0 l mv m1 (rd_T31 n.f2 x75) A3 c3 A4 c4 refs work t.1 t.2 w0 W (HBw.out.trans (hW.mono HBw.out.size)) hbb hk HL.out hlc g3 l3 g4 l4 ht
          have hbk1 := Aside0.mk HBK.out
          have P := Aside0.mk g3
          clear g3 g4 ihs
          have cb : decide (x75 < (n.f2.length : Int)) = true := decide_eq_true c
          by_cases c5 : t.1 = 0
          · rw [if_pos c5] at H
            have c5b : (t.1 != 0) = false := bne_eq_false_iff_eq.mpr c5
            have HN := Aside0.mk H
            clear H ht
            go_wp2_with (go_at_call 23; refine (hcall _ (by exact below_alloc (Below.refl _ _) _) (blk_alloc hbk1.out _)).mono ?_; rintro e w1 ⟨rfl, hbk2, hkb2⟩)
            go_roundg k1
            case measure => exact Nat.lt_succ_self _
            case rel => exact ⟨wrap64 (x75 + 1), t.2, rfl, HN, ⟨by have := HK.out; omega⟩, ⟨hbk2⟩, ⟨(HKB.out.alloc _).trans hkb2 (fun j h => .inl h)⟩⟩
          · rw [if_neg c5] at H
            have c5b : (t.1 != 0) = true := bne_iff_ne.mpr c5
            obtain rfl := Option.some.inj H
            clear H ht
            go_wp2_with (go_at_call 23; refine (hcall _ (by exact below_alloc (Below.refl _ _) _) (blk_alloc hbk1.out _)).mono ?_; rintro e w1 ⟨rfl, hbk2, hkb2⟩)
            go_ret
            exact ⟨rfl, hbk2, (HKB.out.alloc _).trans hkb2 (fun j h => .inl h)⟩
        · rw [if_neg c'] at H
          cases H
      · rw [if_neg c] at H
        obtain ⟨rfl, rfl⟩ := Prod.mk.inj (Option.some.inj H)
        have cb : decide (x75 < (n.f2.length : Int)) = false := decide_eq_false c
        clear H
        go_wp2
        go_ret
        exact ⟨rfl, HBK.out, HKB.out⟩

/-! ### cal_open: function 14 -/
def cal_open.rp (k : Nat) (x : S48) : Bool := cal_Right.f k x.f1.f0 x.f1.f1 x.f1.f2 x.f1.f3 == some false
def cal_open.rok (k : Nat) (l : List S48) : Bool := l.all fun x => (cal_Right.f k x.f1.f0 x.f1.f1 x.f1.f2 x.f1.f3).isSome
def cal_open.l0 (k : Nat) : Nat → List S48 → Int → List S31 → Int → Option Int
  | 0, _, _, _, _ => none
  | j + 1, l, day, ks, i =>
    if i < (ks.length : Int) then (if 0 ≤ i then
      (if (l.length : Int) > 24 then some 3 else
       if cal_open.rok k l = true then
        (if l.any (cal_open.rp k) = true then some 1 else
         (cal_Right.f k (rd_T31 ks i).f0 (rd_T31 ks i).f1 (rd_T31 ks i).f2 (rd_T31 ks i).f3).bind fun b => if b = true then
          ((date_Right.f day).bind fun d => if d = true then
            ((cal_book_walk.f k l 0 (rd_T31 ks i) 0 false).bind fun t => if t.1 = 0 then cal_open.l0 k j l day ks (wrap64 (i + 1)) else some t.1)
           else some 6)
          else some 1)
       else none)
      else none) else some 0
set_option maxHeartbeats 4000000 in
set_option maxRecDepth 100000 in
theorem cal_open.lit (k : Nat) (x : S48) (A1 : Option Addr) (c1 : Nat) (A2 : Option Addr) (c2 : Nat) (w : World) (h1c : x.f1.f1.length ≤ c1) (h1 : (Kd.int .i64).C w A1 x.f1.f1.length x.f1.f1) (h2c : x.f1.f2.length ≤ c2) (h2 : k31.C w A2 x.f1.f2.length x.f1.f2)
    (h : (cal_Right.f k x.f1.f0 x.f1.f1 x.f1.f2 x.f1.f3).isSome = true) :
    Calls Tryd.prog 21 #[.agg #[.string x.f0, .int .i64 x.f1.f0, .slice A1 x.f1.f1.length c1, .slice A2 x.f1.f2.length c2, .string x.f1.f3]] w fun e w' => e = .returned (.bool (cal_open.rp k x)) ∧ Below w.heap.size w w' := by
  obtain ⟨r, hr⟩ := Option.isSome_iff_exists.mp h
  have e : cal_open.rp k x = !r := by unfold cal_open.rp; rw [hr]; cases r <;> rfl
  rw [e]
  have hcall := fun (W : World) (hW : Below w.heap.size w W) => cal_Right.calls k x.f1.f0 A1 c1 x.f1.f1 A2 c2 x.f1.f2 x.f1.f3 r W (Kd.C_below h1 hW) h1c (Kd.C_below h2 hW) h2c hr
  clear h h1 h2 hr e
  go_enter Tryd.func21, Tryd.ntmps21
  go_wp2_with (go_at_call 22; refine (hcall _ (by exact below_alloc (Below.refl _ _) _)).mono ?_; rintro e w1 ⟨rfl, hb1⟩)
  go_ret
  exact ⟨rfl, (below_alloc (Below.refl _ _) _).trans (hb1.mono (by simp))⟩
def cal_open.Post (A0 : Option Addr) (n c0 : Nat) (r : Int) (w : World) (e : Ending) (w' : World) : Prop :=
  ((r = 0 ∧ ∃ (bb mb : Nat) (met : Int), e = .returned (.tuple #[.pointer (some ⟨bb, 0, none⟩), .int .i64 0]) ∧ w'.heap[bb]? = some (.cells #[.slice A0 n c0, .map (some mb), .int .i64 met] 58 (0, 0)) ∧ w'.heap[mb]? = some (.map #[] 0) ∧ w.heap.size ≤ bb ∧ w.heap.size ≤ mb ∧ bb ≠ mb) ∨
       (r ≠ 0 ∧ e = .returned (.tuple #[.pointer none, .int .i64 r]))) ∧ Below w.heap.size w w'
set_option maxHeartbeats 8000000 in
set_option maxRecDepth 100000 in
theorem cal_open.calls (k j : Nat) (A0 : Option Addr) (c0 : Nat) (l : List S48) (day : Int) (AN : Option Addr) (cN : Nat) (ks : List S31) (r : Int) (w : World)
    (hl : Kd.C k48 w A0 l.length l) (hlc : l.length ≤ c0) (hn : Kd.C k31 w AN ks.length ks) (hnc : ks.length ≤ cN) (h : cal_open.l0 k j l day ks 0 = some r) :
    Calls Tryd.prog 14 #[.slice A0 l.length c0, .int .i64 day, .slice AN ks.length cN] w fun e w' =>
      cal_open.Post A0 l.length c0 r w e w' := by
  have HL := Aside0.mk hl
  have HN := Aside0.mk hn
  have HA := Aside0.mk h
  have hmm := @run_makeMap Tryd.prog
  clear hl hn h
  go_enter Tryd.func14, Tryd.ntmps14
  go_wp2
  go_loopg [18] j (fun kq v18 wr => ∃ (x18 met : Int), v18 = .int .i64 x18 ∧ Aside0 (cal_open.l0 k kq l day ks x18 = some r) ∧ Aside0 (wr.heap[w.heap.size + 1]? = some (.cells #[.slice A0 l.length c0, .map (some w.heap.size), .int .i64 met] 58 (0, 0))) ∧ Aside0 (wr.heap[w.heap.size]? = some (.map #[] 0)) ∧ Aside0 (Below w.heap.size w wr))
  case atStart =>
    refine ⟨0, 0, rfl, HA, ⟨?_⟩, ⟨?_⟩, ⟨?_⟩⟩
    · have := blk_new (w.alloc (.map #[] 0)) (.cells #[.slice A0 l.length c0, .map (some w.heap.size), .int .i64 0] 58 (0, 0))
      rwa [show (w.alloc (.map #[] 0)).heap.size = w.heap.size + 1 from by simp] at this
    · exact blk_alloc (blk_new w (.map #[] 0)) _
    · exact below_alloc (below_alloc (Below.refl _ _) _) _
  case round =>
    obtain ⟨x18, met, rfl, HR, HBK, HMP, HB⟩ := hrel
    clear HA
    cases gk with
    | zero => exact absurd HR.out (by simp [cal_open.l0])
    | succ k1 =>
      have H := HR.out
      clear HR
      rw [cal_open.l0.eq_2] at H
      have HBa : Aside0 (∀ W, Below wr.heap.size wr W → Below w.heap.size w W) := ⟨fun W h => HB.out.trans (h.mono HB.out.size)⟩
      by_cases c : x18 < (ks.length : Int)
      rotate_left
      · rw [if_neg c] at H
        obtain rfl := Option.some.inj H
        have cb : decide (x18 < (ks.length : Int)) = false := decide_eq_false c
        clear H
        go_wp2
        go_ret2
        exact (show cal_open.Post _ _ _ _ _ _ _ from ⟨.inl ⟨rfl, w.heap.size + 1, w.heap.size, met, rfl, HBK.out, HMP.out, by omega, by omega, by omega⟩, HB.out⟩)
      rw [if_pos c] at H
      by_cases c' : 0 ≤ x18
      rotate_left
      · rw [if_neg c'] at H
        cases H
      rw [if_pos c'] at H
      have cb : decide (x18 < (ks.length : Int)) = true := decide_eq_true c
      obtain ⟨ad, A3, c3, A4, c4, e, y0, y1, y2, y3, l3, g3, l4, g4⟩ := at_T31 HN.out x18 c' c
      cases e
      have hblk := World.block_lt_of_cell? w _ y0
      replace y0 := (HB.out.cell hblk).trans y0
      replace y1 := (HB.out.cell (p := ⟨(ad.add (x18.toNat * 4)).block, (ad.add (x18.toNat * 4)).off + 1, none⟩) hblk).trans y1
      replace y2 := (HB.out.cell (p := ⟨(ad.add (x18.toNat * 4)).block, (ad.add (x18.toNat * 4)).off + 2, none⟩) hblk).trans y2
      replace y3 := (HB.out.cell (p := ⟨(ad.add (x18.toNat * 4)).block, (ad.add (x18.toNat * 4)).off + 3, none⟩) hblk).trans y3
      by_cases q24 : (l.length : Int) > 24
      · rw [if_pos q24] at H
        obtain rfl := Option.some.inj H
        have q24b : decide ((24 : Int) < (l.length : Int)) = true := decide_eq_true q24
        clear H
        go_wp2
        go_ret2
        exact (show cal_open.Post _ _ _ _ _ _ _ from ⟨.inr ⟨by decide, rfl⟩, HBa.out _ (below_alloc (Below.refl _ _) _)⟩)
      rw [if_neg q24] at H
      have q24b : decide ((24 : Int) < (l.length : Int)) = false := decide_eq_false q24
      by_cases qr : cal_open.rok k l = true
      rotate_left
      · rw [if_neg qr] at H
        cases H
      rw [if_pos qr] at H
      have e21 : ∀ args w, (callFunc 21 args).run Tryd.prog w = .ok (.enter 21 args) w := enters_of Tryd.func21 (by kernel_rfl) rfl
      have hc20 := fun (W : World) (hW : Below w.heap.size w W) => cal_Cal_20.calls (cal_open.rp k) 21 #[] e21 A0 c0 l W (Kd.C_below HL.out hW) (by omega) (fun X x A1 c1 A2 c2 hx hbX l1 g1 l2 g2 => cal_open.lit k x A1 c1 A2 c2 X l1 g1 l2 g2 (List.all_eq_true.mp qr x hx))
      clear e21
      by_cases qa : l.any (cal_open.rp k) = true
      · rw [if_pos qa] at H
        obtain rfl := Option.some.inj H
        rw [qa] at hc20
        clear H qr
        go_wp2_with (go_at_call 20; refine (hc20 _ (HBa.out _ (below_alloc (Below.refl _ _) _))).mono ?_; rintro e w1 ⟨rfl, hb1⟩; have hB1 := (below_alloc (Below.refl wr.heap.size wr) _).trans (hb1.mono (by simp)); have n1 : w1.heap[wr.heap.size]? = some (.cells #[.int .i64 (rd_T31 ks x18).f0, .slice A3 (rd_T31 ks x18).f1.length c3, .slice A4 (rd_T31 ks x18).f2.length c4, .string (rd_T31 ks x18).f3] 31 (0, 0)) := (hb1.block _ (by simp)).trans (blk_new wr _); have HB1 := Aside0.mk hB1; have N1 := Aside0.mk n1; clear hb1 hB1 n1 hc20)
        go_ret2
        exact (show cal_open.Post _ _ _ _ _ _ _ from ⟨.inr ⟨by decide, rfl⟩, HBa.out _ HB1.out⟩)
      rw [if_neg qa] at H
      rw [Bool.not_eq_true] at qa
      rw [qa] at hc20
      clear qr
      obtain ⟨b, hb, H⟩ := Option.bind_eq_some_iff.mp H
      have hc22 := fun (W : World) (hW : Below w.heap.size w W) => cal_Right.calls k (rd_T31 ks x18).f0 A3 c3 (rd_T31 ks x18).f1 A4 c4 (rd_T31 ks x18).f2 (rd_T31 ks x18).f3 b W (Kd.C_below g3 hW) l3 (Kd.C_below g4 hW) l4 hb
      cases b with
      | false =>
        rw [if_neg (by decide)] at H
        obtain rfl := Option.some.inj H
        clear H hb g3 g4
        go_wp2_with (first | (go_at_call 20; refine (hc20 _ (HBa.out _ (below_alloc (Below.refl _ _) _))).mono ?_; rintro e w1 ⟨rfl, hb1⟩; have hB1 := (below_alloc (Below.refl wr.heap.size wr) _).trans (hb1.mono (by simp)); have n1 : w1.heap[wr.heap.size]? = some (.cells #[.int .i64 (rd_T31 ks x18).f0, .slice A3 (rd_T31 ks x18).f1.length c3, .slice A4 (rd_T31 ks x18).f2.length c4, .string (rd_T31 ks x18).f3] 31 (0, 0)) := (hb1.block _ (by simp)).trans (blk_new wr _); have m0w1 : w1.cell? ⟨wr.heap.size, 0, none⟩ = _ := blk_cell n1 0; have m1w1 : w1.cell? ⟨wr.heap.size, 1, none⟩ = _ := blk_cell n1 1; have m2w1 : w1.cell? ⟨wr.heap.size, 2, none⟩ = _ := blk_cell n1 2; have m3w1 : w1.cell? ⟨wr.heap.size, 3, none⟩ = _ := blk_cell n1 3; simp only [List.getElem?_toArray, List.getElem?_cons_zero, List.getElem?_cons_succ] at m0w1 m1w1 m2w1 m3w1; have HB1 := Aside0.mk hB1; have N1 := Aside0.mk n1; clear hb1 hB1 n1 hc20) | (go_at_call 22; refine (hc22 _ (HBa.out _ HB1.out)).mono ?_; rintro e w2 ⟨rfl, hb2⟩; have HB2 := Aside0.mk (HB1.out.trans (hb2.mono HB1.out.size)); have N2 := Aside0.mk ((hb2.block _ (blk_lt N1.out)).trans N1.out); clear hb2 hc22 m0w1 m1w1 m2w1 m3w1))
        go_ret2
        exact (show cal_open.Post _ _ _ _ _ _ _ from ⟨.inr ⟨by decide, rfl⟩, HBa.out _ HB2.out⟩)
      | true =>
        rw [if_pos rfl] at H
        obtain ⟨d, hd, H⟩ := Option.bind_eq_some_iff.mp H
        have hc19 := fun (W : World) => date_Right.calls day d W hd
        cases d with
        | false =>
          rw [if_neg (by decide)] at H
          obtain rfl := Option.some.inj H
          clear H hb hd g3 g4
          go_wp2_with (first | (go_at_call 20; refine (hc20 _ (HBa.out _ (below_alloc (Below.refl _ _) _))).mono ?_; rintro e w1 ⟨rfl, hb1⟩; have hB1 := (below_alloc (Below.refl wr.heap.size wr) _).trans (hb1.mono (by simp)); have n1 : w1.heap[wr.heap.size]? = some (.cells #[.int .i64 (rd_T31 ks x18).f0, .slice A3 (rd_T31 ks x18).f1.length c3, .slice A4 (rd_T31 ks x18).f2.length c4, .string (rd_T31 ks x18).f3] 31 (0, 0)) := (hb1.block _ (by simp)).trans (blk_new wr _); have m0w1 : w1.cell? ⟨wr.heap.size, 0, none⟩ = _ := blk_cell n1 0; have m1w1 : w1.cell? ⟨wr.heap.size, 1, none⟩ = _ := blk_cell n1 1; have m2w1 : w1.cell? ⟨wr.heap.size, 2, none⟩ = _ := blk_cell n1 2; have m3w1 : w1.cell? ⟨wr.heap.size, 3, none⟩ = _ := blk_cell n1 3; simp only [List.getElem?_toArray, List.getElem?_cons_zero, List.getElem?_cons_succ] at m0w1 m1w1 m2w1 m3w1; have HB1 := Aside0.mk hB1; have N1 := Aside0.mk n1; clear hb1 hB1 n1 hc20) | (go_at_call 22; refine (hc22 _ (HBa.out _ HB1.out)).mono ?_; rintro e w2 ⟨rfl, hb2⟩; have HB2 := Aside0.mk (HB1.out.trans (hb2.mono HB1.out.size)); have N2 := Aside0.mk ((hb2.block _ (blk_lt N1.out)).trans N1.out); clear hb2 hc22 m0w1 m1w1 m2w1 m3w1) | (go_at_call 19; refine (hc19 _).mono ?_; rintro e w3 ⟨rfl, hd3⟩; have hb3 := Drawn0.below hd3; have HB3 := Aside0.mk (HB2.out.trans (hb3.mono HB2.out.size)); have n3 := (hb3.block _ (blk_lt N2.out)).trans N2.out; have k3 := (HB3.out.block _ (blk_lt HBK.out)).trans HBK.out; have m0w3 : w3.cell? ⟨wr.heap.size, 0, none⟩ = _ := blk_cell n3 0; have m1w3 : w3.cell? ⟨wr.heap.size, 1, none⟩ = _ := blk_cell n3 1; have m2w3 : w3.cell? ⟨wr.heap.size, 2, none⟩ = _ := blk_cell n3 2; have m3w3 : w3.cell? ⟨wr.heap.size, 3, none⟩ = _ := blk_cell n3 3; simp only [List.getElem?_toArray, List.getElem?_cons_zero, List.getElem?_cons_succ] at m0w3 m1w3 m2w3 m3w3; have f3 := blk_frozen k3 2; have u3 : w3.cell? ⟨w.heap.size + 1, 2, none⟩ = _ := blk_cell k3 2; simp only [List.getElem?_toArray, List.getElem?_cons_zero, List.getElem?_cons_succ] at u3; have K3 := Aside0.mk k3; have hlt3 := blk_lt k3; have hlt4 := blk_lt n3; have hne3 : wr.heap.size ≠ w.heap.size + 1 := (by have := blk_lt HBK.out; omega); clear hd3 hb3 k3 n3 hc19))
          go_ret2
          exact (show cal_open.Post _ _ _ _ _ _ _ from ⟨.inr ⟨by decide, rfl⟩, HBa.out _ HB3.out⟩)
        | true =>
          rw [if_pos rfl] at H
          obtain ⟨t, ht, H⟩ := Option.bind_eq_some_iff.mp H
          have hc23 := fun (W : World) (hW : Below w.heap.size w W) (hk : W.heap[w.heap.size + 1]? = some (.cells #[.slice A0 l.length c0, .map (some w.heap.size), .int .i64 0] 58 (0, 0))) => cal_book_walk.calls k (w.heap.size + 1) A0 c0 l (.map (some w.heap.size)) 0 (rd_T31 ks x18) A3 c3 A4 c4 0 false t.1 t.2 w W hW (by omega) hk HL.out hlc g3 l3 g4 l4 ht
          clear hb hd ht g3 g4
          by_cases c5 : t.1 = 0
          · rw [if_pos c5] at H
            have c5b : (t.1 != 0) = false := bne_eq_false_iff_eq.mpr c5
            have HX := Aside0.mk H
            clear H
            go_wp2_with (first | (go_at_call 20; refine (hc20 _ (HBa.out _ (below_alloc (Below.refl _ _) _))).mono ?_; rintro e w1 ⟨rfl, hb1⟩; have hB1 := (below_alloc (Below.refl wr.heap.size wr) _).trans (hb1.mono (by simp)); have n1 : w1.heap[wr.heap.size]? = some (.cells #[.int .i64 (rd_T31 ks x18).f0, .slice A3 (rd_T31 ks x18).f1.length c3, .slice A4 (rd_T31 ks x18).f2.length c4, .string (rd_T31 ks x18).f3] 31 (0, 0)) := (hb1.block _ (by simp)).trans (blk_new wr _); have m0w1 : w1.cell? ⟨wr.heap.size, 0, none⟩ = _ := blk_cell n1 0; have m1w1 : w1.cell? ⟨wr.heap.size, 1, none⟩ = _ := blk_cell n1 1; have m2w1 : w1.cell? ⟨wr.heap.size, 2, none⟩ = _ := blk_cell n1 2; have m3w1 : w1.cell? ⟨wr.heap.size, 3, none⟩ = _ := blk_cell n1 3; simp only [List.getElem?_toArray, List.getElem?_cons_zero, List.getElem?_cons_succ] at m0w1 m1w1 m2w1 m3w1; have HB1 := Aside0.mk hB1; have N1 := Aside0.mk n1; clear hb1 hB1 n1 hc20) | (go_at_call 22; refine (hc22 _ (HBa.out _ HB1.out)).mono ?_; rintro e w2 ⟨rfl, hb2⟩; have HB2 := Aside0.mk (HB1.out.trans (hb2.mono HB1.out.size)); have N2 := Aside0.mk ((hb2.block _ (blk_lt N1.out)).trans N1.out); clear hb2 hc22 m0w1 m1w1 m2w1 m3w1) | (go_at_call 19; refine (hc19 _).mono ?_; rintro e w3 ⟨rfl, hd3⟩; have hb3 := Drawn0.below hd3; have HB3 := Aside0.mk (HB2.out.trans (hb3.mono HB2.out.size)); have n3 := (hb3.block _ (blk_lt N2.out)).trans N2.out; have k3 := (HB3.out.block _ (blk_lt HBK.out)).trans HBK.out; have m0w3 : w3.cell? ⟨wr.heap.size, 0, none⟩ = _ := blk_cell n3 0; have m1w3 : w3.cell? ⟨wr.heap.size, 1, none⟩ = _ := blk_cell n3 1; have m2w3 : w3.cell? ⟨wr.heap.size, 2, none⟩ = _ := blk_cell n3 2; have m3w3 : w3.cell? ⟨wr.heap.size, 3, none⟩ = _ := blk_cell n3 3; simp only [List.getElem?_toArray, List.getElem?_cons_zero, List.getElem?_cons_succ] at m0w3 m1w3 m2w3 m3w3; have f3 := blk_frozen k3 2; have u3 : w3.cell? ⟨w.heap.size + 1, 2, none⟩ = _ := blk_cell k3 2; simp only [List.getElem?_toArray, List.getElem?_cons_zero, List.getElem?_cons_succ] at u3; have K3 := Aside0.mk k3; have hlt3 := blk_lt k3; have hlt4 := blk_lt n3; have hne3 : wr.heap.size ≠ w.heap.size + 1 := (by have := blk_lt HBK.out; omega); clear hd3 hb3 k3 n3 hc19) | (go_at_call 23; refine (hc23 _ ((HBa.out _ HB3.out).setCell (by simp) _) (blk_set K3.out 2 _)).mono ?_; rintro e w4 ⟨rfl, hk4, hkb4⟩))
            go_roundg k1
            case measure => exact Nat.lt_succ_self _
            case rel =>
              have hall : KB (fun j => j = w.heap.size + 1) wr w4 := ((KB.of_below (S := fun j => j = w.heap.size + 1) HB3.out).setCell (p := ⟨w.heap.size + 1, 2, none⟩) (.inl rfl) _).trans hkb4 (fun j h => .inl h)
              exact ⟨wrap64 (x18 + 1), t.2, rfl, HX, ⟨hk4⟩, ⟨hall.blk HMP.out (by omega)⟩, ⟨hall.below HB.out (fun j e => by omega)⟩⟩
          · rw [if_neg c5] at H
            have c5b : (t.1 != 0) = true := bne_iff_ne.mpr c5
            obtain rfl := Option.some.inj H
            clear H
            go_wp2_with (first | (go_at_call 20; refine (hc20 _ (HBa.out _ (below_alloc (Below.refl _ _) _))).mono ?_; rintro e w1 ⟨rfl, hb1⟩; have hB1 := (below_alloc (Below.refl wr.heap.size wr) _).trans (hb1.mono (by simp)); have n1 : w1.heap[wr.heap.size]? = some (.cells #[.int .i64 (rd_T31 ks x18).f0, .slice A3 (rd_T31 ks x18).f1.length c3, .slice A4 (rd_T31 ks x18).f2.length c4, .string (rd_T31 ks x18).f3] 31 (0, 0)) := (hb1.block _ (by simp)).trans (blk_new wr _); have m0w1 : w1.cell? ⟨wr.heap.size, 0, none⟩ = _ := blk_cell n1 0; have m1w1 : w1.cell? ⟨wr.heap.size, 1, none⟩ = _ := blk_cell n1 1; have m2w1 : w1.cell? ⟨wr.heap.size, 2, none⟩ = _ := blk_cell n1 2; have m3w1 : w1.cell? ⟨wr.heap.size, 3, none⟩ = _ := blk_cell n1 3; simp only [List.getElem?_toArray, List.getElem?_cons_zero, List.getElem?_cons_succ] at m0w1 m1w1 m2w1 m3w1; have HB1 := Aside0.mk hB1; have N1 := Aside0.mk n1; clear hb1 hB1 n1 hc20) | (go_at_call 22; refine (hc22 _ (HBa.out _ HB1.out)).mono ?_; rintro e w2 ⟨rfl, hb2⟩; have HB2 := Aside0.mk (HB1.out.trans (hb2.mono HB1.out.size)); have N2 := Aside0.mk ((hb2.block _ (blk_lt N1.out)).trans N1.out); clear hb2 hc22 m0w1 m1w1 m2w1 m3w1) | (go_at_call 19; refine (hc19 _).mono ?_; rintro e w3 ⟨rfl, hd3⟩; have hb3 := Drawn0.below hd3; have HB3 := Aside0.mk (HB2.out.trans (hb3.mono HB2.out.size)); have n3 := (hb3.block _ (blk_lt N2.out)).trans N2.out; have k3 := (HB3.out.block _ (blk_lt HBK.out)).trans HBK.out; have m0w3 : w3.cell? ⟨wr.heap.size, 0, none⟩ = _ := blk_cell n3 0; have m1w3 : w3.cell? ⟨wr.heap.size, 1, none⟩ = _ := blk_cell n3 1; have m2w3 : w3.cell? ⟨wr.heap.size, 2, none⟩ = _ := blk_cell n3 2; have m3w3 : w3.cell? ⟨wr.heap.size, 3, none⟩ = _ := blk_cell n3 3; simp only [List.getElem?_toArray, List.getElem?_cons_zero, List.getElem?_cons_succ] at m0w3 m1w3 m2w3 m3w3; have f3 := blk_frozen k3 2; have u3 : w3.cell? ⟨w.heap.size + 1, 2, none⟩ = _ := blk_cell k3 2; simp only [List.getElem?_toArray, List.getElem?_cons_zero, List.getElem?_cons_succ] at u3; have K3 := Aside0.mk k3; have hlt3 := blk_lt k3; have hlt4 := blk_lt n3; have hne3 : wr.heap.size ≠ w.heap.size + 1 := (by have := blk_lt HBK.out; omega); clear hd3 hb3 k3 n3 hc19) | (go_at_call 23; refine (hc23 _ ((HBa.out _ HB3.out).setCell (by simp) _) (blk_set K3.out 2 _)).mono ?_; rintro e w4 ⟨rfl, hk4, hkb4⟩))
            go_ret2
            have hall : KB (fun j => j = w.heap.size + 1) wr w4 := ((KB.of_below (S := fun j => j = w.heap.size + 1) HB3.out).setCell (p := ⟨w.heap.size + 1, 2, none⟩) (.inl rfl) _).trans hkb4 (fun j h => .inl h)
            exact (show cal_open.Post _ _ _ _ _ _ _ from ⟨.inr ⟨c5, rfl⟩, hall.below HB.out (fun j e => by omega)⟩)

/-! ### date_before: function 50 -/
def date_before.f (a0 : Int) : Option (Int) := some (wrap64 ((wrap64 ((wrap64 ((wrap64 ((wrap64 (a0 - 1)) * 365)) + (wrap64 (Int.tdiv (wrap64 (a0 - 1)) 4)))) - (wrap64 (Int.tdiv (wrap64 (a0 - 1)) 100)))) + (wrap64 (Int.tdiv (wrap64 (a0 - 1)) 400))))
set_option maxHeartbeats 8000000 in
set_option maxRecDepth 100000 in
theorem date_before.calls (a0 : Int) (r : Int) (w : World) (h : date_before.f a0 = some r) :
    Calls Tryd.prog 50 #[.int .i64 a0] w fun e w' => e = .returned (.int .i64 r) ∧ Drawn0 w w' := by
  have H : (some (wrap64 ((wrap64 ((wrap64 ((wrap64 ((wrap64 (a0 - 1)) * 365)) + (wrap64 (Int.tdiv (wrap64 (a0 - 1)) 4)))) - (wrap64 (Int.tdiv (wrap64 (a0 - 1)) 100)))) + (wrap64 (Int.tdiv (wrap64 (a0 - 1)) 400))))) = some r := h
  clear h
  obtain rfl := Option.some.inj H
  go_enter Tryd.func50, Tryd.ntmps50
  go_wp2
  go_ret
  exact ⟨by first | rfl | (simp; done) | (simp [*]; done), by repeat (first | exact Drawn0.refl _ | apply Drawn0.step)⟩

/-! ### date_Leap: function 61 -/
def date_Leap.f (a0 : Int) : Option (Bool) := if (Int.tmod a0 4) = 0 then (if (Int.tmod a0 100) = 0 then (some ((Int.tmod a0 400) == 0)) else (some true)) else (some false)
set_option maxHeartbeats 8000000 in
set_option maxRecDepth 100000 in
theorem date_Leap.calls (a0 : Int) (r : Bool) (w : World) (h : date_Leap.f a0 = some r) :
    Calls Tryd.prog 61 #[.int .i64 a0] w fun e w' => e = .returned (.bool r) ∧ Drawn0 w w' := by
  have H : (if (Int.tmod a0 4) = 0 then (if (Int.tmod a0 100) = 0 then (some ((Int.tmod a0 400) == 0)) else (some true)) else (some false)) = some r := h
  clear h
  by_cases c2 : (Int.tmod a0 4) = 0
  · rw [if_pos c2] at H
    have c2b0 : ((Int.tmod a0 4) == 0) = true := beq_iff_eq.mpr c2
    have c2b1 : ((Int.tmod a0 4) != 0) = false := bne_eq_false_iff_eq.mpr c2
    clear c2
    by_cases c3 : (Int.tmod a0 100) = 0
    · rw [if_pos c3] at H
      have c3b0 : ((Int.tmod a0 100) == 0) = true := beq_iff_eq.mpr c3
      have c3b1 : ((Int.tmod a0 100) != 0) = false := bne_eq_false_iff_eq.mpr c3
      clear c3
      obtain rfl := Option.some.inj H
      go_enter Tryd.func61, Tryd.ntmps61
      go_wp2
      go_ret
      exact ⟨by first | rfl | (simp; done) | (simp [*]; done), by repeat (first | exact Drawn0.refl _ | apply Drawn0.step)⟩
    · rw [if_neg c3] at H
      have c3b0 : ((Int.tmod a0 100) == 0) = false := beq_eq_false_iff_ne.mpr c3
      have c3b1 : ((Int.tmod a0 100) != 0) = true := bne_iff_ne.mpr c3
      obtain rfl := Option.some.inj H
      go_enter Tryd.func61, Tryd.ntmps61
      go_wp2
      go_ret
      exact ⟨by first | rfl | (simp; done) | (simp [*]; done), by repeat (first | exact Drawn0.refl _ | apply Drawn0.step)⟩
  · rw [if_neg c2] at H
    have c2b0 : ((Int.tmod a0 4) == 0) = false := beq_eq_false_iff_ne.mpr c2
    have c2b1 : ((Int.tmod a0 4) != 0) = true := bne_iff_ne.mpr c2
    obtain rfl := Option.some.inj H
    go_enter Tryd.func61, Tryd.ntmps61
    go_wp2
    go_ret
    exact ⟨by first | rfl | (simp; done) | (simp [*]; done), by repeat (first | exact Drawn0.refl _ | apply Drawn0.step)⟩

/-! ### date_Len: function 51 -/
def date_Len.long (m : Int) : Int := if m = 4 ∨ m = 6 ∨ m = 9 ∨ m = 11 then 30 else 31
def date_Len.f (a0 : Int) (a1 : Int) : Option (Int) := if a1 < 1 then some 0 else if a1 > 12 then some 0 else if a1 = 2 then (date_Leap.f a0).bind fun t => some (if t = true then 29 else 28) else some (date_Len.long a1)
set_option maxHeartbeats 4000000 in
set_option maxRecDepth 100000 in
theorem date_Len.at (a0 m r : Int) (w : World) (h1 : 1 ≤ m) (h12 : m ≤ 12) (h2 : m ≠ 2) (hr : date_Len.long m = r) :
    Calls Tryd.prog 51 #[.int .i64 a0, .int .i64 m] w fun e w' => e = .returned (.int .i64 r) ∧ Below w.heap.size w w' := by
  have hm : m = 1 ∨ m = 3 ∨ m = 4 ∨ m = 5 ∨ m = 6 ∨ m = 7 ∨ m = 8 ∨ m = 9 ∨ m = 10 ∨ m = 11 ∨ m = 12 := by omega
  clear h1 h12 h2
  have hu := Tryd.underlying98
  rcases hm with rfl | rfl | rfl | rfl | rfl | rfl | rfl | rfl | rfl | rfl | rfl
  all_goals
    simp only [date_Len.long] at hr
    simp at hr
    subst hr
    go_enter Tryd.func51, Tryd.ntmps51
    go_wp2
    go_ret
    exact ⟨rfl, (Below.refl _ _).alloc (Nat.le_refl _) _⟩
set_option maxHeartbeats 4000000 in
set_option maxRecDepth 100000 in
theorem date_Len.calls (a0 : Int) (a1 : Int) (r : Int) (w : World) (h : date_Len.f a0 a1 = some r) :
    Calls Tryd.prog 51 #[.int .i64 a0, .int .i64 a1] w fun e w' => e = .returned (.int .i64 r) ∧ Below w.heap.size w w' := by
  have hu := Tryd.underlying98
  unfold date_Len.f at h
  by_cases c1 : a1 < 1
  · rw [if_pos c1] at h
    obtain rfl := Option.some.inj h
    clear h
    go_enter Tryd.func51, Tryd.ntmps51
    go_wp2
    go_ret
    exact ⟨rfl, (Below.refl _ _).alloc (Nat.le_refl _) _⟩
  rw [if_neg c1] at h
  by_cases c2 : a1 > 12
  · rw [if_pos c2] at h
    obtain rfl := Option.some.inj h
    clear h
    go_enter Tryd.func51, Tryd.ntmps51
    go_wp2
    go_ret
    exact ⟨rfl, (Below.refl _ _).alloc (Nat.le_refl _) _⟩
  rw [if_neg c2] at h
  by_cases c3 : a1 = 2
  · rw [if_pos c3] at h
    subst c3
    obtain ⟨t, A20, h⟩ := Option.bind_eq_some_iff.mp h
    have A := Aside0.mk A20
    clear A20 c1 c2
    cases t
    all_goals
      obtain rfl := Option.some.inj h
      clear h
      go_enter Tryd.func51, Tryd.ntmps51
      go_wp2_with (go_at_call 61; refine (date_Leap.calls a0 _ _ A.out).mono ?_; rintro e w' ⟨rfl, ⟨nd, rfl⟩⟩)
      go_ret
      exact ⟨rfl, pw_below_drewN ((Below.refl _ _).alloc (Nat.le_refl _) _) _⟩
  rw [if_neg c3] at h
  exact date_Len.at a0 a1 r w (by omega) (by omega) c3 (Option.some.inj h)

end Go.Proofs.YtpcjbnaggeiaoaaDoor.PCalMoved
