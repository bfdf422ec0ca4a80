/- A store of conditions in memory; New, Len, Has, Add. No conditions beyond those that each theorem names. -/
import Derived.Test.YthneeibphelofaaQCondPlaysCondSet
namespace Go.Proofs.Ythneeibphelofaa.QCondPlays
open Go.RowKit Go.Proofs.Ythneeibphelofaa.PCondPlays Go.Proofs.YthneeibphelofaaW.PrintWords Go.Proofs.YthneeibphelofaaW.PrintLast Go.Proofs.YthneeibphelofaaW.PrintMore
set_option linter.unusedVariables false
set_option linter.unusedSimpArgs false
/-- Block s is a store, whose map lies in block b and holds the conditions L. -/
structure Held (w : World) (s b : Nat) (L : List C) : Prop where
  cell : w.heap[s]? = some (.cells #[.map (some b)] 51 (0, 0))
  own : ∃ D : DataW Unit, w.ownsMap Try.prog 29 (plainElem Try.prog 4) b L.length D ∧ Is D L
theorem Held.sorted {w : World} {s b : Nat} {L : List C} (h : Held w s b L) : Sorted L := by obtain ⟨D, _, h⟩ := h.own; exact h.sorted
theorem Held.wf {w : World} {s b : Nat} {L : List C} (h : Held w s b L) : ∀ c ∈ L, wfC c := by obtain ⟨D, _, h⟩ := h.own; exact h.wf
theorem Held.ltb {w : World} {s b : Nat} {L : List C} (h : Held w s b L) : b < w.heap.size := by obtain ⟨D, h, _⟩ := h.own; exact h.lt
theorem Held.lts {w : World} {s b : Nat} {L : List C} (h : Held w s b L) : s < w.heap.size := blk_lt h.cell
theorem Held.ne {w : World} {s b : Nat} {L : List C} (h : Held w s b L) : s ≠ b := by
  intro e
  obtain ⟨D, ⟨es, clock, hm, _⟩, _⟩ := h.own
  have := h.cell
  rw [e, hm] at this
  cases this
theorem Held.kept {w w' : World} {s b : Nat} {L : List C} {row : Option Nat} (h : Held w s b L) (hg : w.grownBy w' row) (hs : some s ≠ row) (hb : some b ≠ row) : Held w' s b L := by
  obtain ⟨D, h1, h2⟩ := h.own
  exact ⟨(hg.block s h.lts hs).trans h.cell, D, h1.kept hg hb, h2⟩
theorem Held.below {w w' : World} {s b : Nat} {L : List C} (h : Held w s b L) (hb : Below w.heap.size w w') : Held w' s b L := by
  obtain ⟨D, ⟨es, clock, hm, r⟩, h2⟩ := h.own
  exact ⟨(hb.block s h.lts).trans h.cell, D, ⟨es, clock, (hb.block b (blk_lt hm)).trans hm, r⟩, h2⟩
theorem grown_below {B b : Nat} {w w' : World} (hg : w.grownBy w' (some b)) (h1 : B ≤ b) (h2 : B ≤ w.heap.size) : Below B w w' :=
  ⟨hg.os, hg.tape, hg.output, hg.size, fun k hk => hg.block k (by omega) (by simp; omega)⟩
theorem below_grown {w w' : World} (h : Below w.heap.size w w') (row : Option Nat) : w.grownBy w' row :=
  ⟨h.os, h.tape, h.output, h.size, fun k hk _ => h.block k hk⟩
theorem Held.cell0 {w : World} {s b : Nat} {L : List C} (h : Held w s b L) : w.cell? ⟨s, 0, none⟩ = some (.map (some b)) := blk_cell h.cell 0
/-- What a bool element reads as. -/
theorem plainElem_bool_inv {P : Program} {e : TypeId} (he : P.underlying e = some .bool) {v : Value} {z : DataW Unit × List MemPlace} (h : plainElem P e v = some z) : ∃ a, v = .bool a ∧ z = (.lit (.bool a), []) := by
  unfold plainElem at h
  rw [he] at h
  cases v <;> simp at h
  exact ⟨_, rfl, h.symm⟩
theorem Held.look {w : World} {s b : Nat} {L : List C} (h : Held w s b L) (c : C) (hc : wfC c) : (Instr.lookup 49 (.map (some b)) (.agg #[.string c.f0, .int .i64 c.f1]) false).run Try.prog w = .ok (.bool (decide (c ∈ L))) w := by
  obtain ⟨D, h1, h2⟩ := h.own
  obtain ⟨v, ps, hrun, hv⟩ := h1.lookup klaw Try.underlying49 (z := .bool false) (by rfl) (plainElem_bool Try.underlying4 false) (kl_key hc)
  rw [h2.at_ c hc] at hv
  obtain ⟨a, rfl, e⟩ := plainElem_bool_inv Try.underlying4 hv
  simp only [Prod.mk.injEq, DataW.lit.injEq, Lit.bool.injEq] at e
  rw [← e.1] at hrun
  exact hrun
theorem Held.len {w : World} {s b : Nat} {L : List C} (h : Held w s b L) (ty : TypeId) : (Builtin.len_ #[49] ty #[.map (some b)]).run Try.prog w = .ok (.int .i64 L.length) w := by
  obtain ⟨D, h1, h2⟩ := h.own
  have := h1.len Try.underlying49 ty
  rw [h2.size_] at this
  exact this
set_option maxHeartbeats 8000000 in
set_option maxRecDepth 100000 in
theorem New.calls (w : World) : Calls Try.prog 8 #[] w fun e w' => ∃ s b, e = .returned (.pointer (some ⟨s, 0, none⟩)) ∧ w.heap.size ≤ s ∧ w.heap.size ≤ b ∧ Held w' s b [] ∧ Below w.heap.size w w' := by
  have hmm := @run_makeMap Try.prog
  go_enter Try.func8, Try.ntmps8
  go_wp2
  go_ret
  refine ⟨w.heap.size + 1, w.heap.size, rfl, by omega, Nat.le_refl _, ⟨?_, .map [], (World.ownsMap_made w _ _ _).alloc _, Is.new⟩, below_alloc (below_alloc (Below.refl _ _) _) _⟩
  have := blk_new (w.alloc (.map #[] 0)) (.cells #[.map (some w.heap.size)] 51 (0, 0))
  rwa [show (w.alloc (.map #[] 0)).heap.size = w.heap.size + 1 from by simp] at this
set_option maxHeartbeats 8000000 in
set_option maxRecDepth 100000 in
theorem Len.calls (s b : Nat) (L : List C) (w : World) (h : Held w s b L) : Calls Try.prog 15 #[.pointer (some ⟨s, 0, none⟩)] w fun e w' => e = .returned (.int .i64 L.length) ∧ Drawn0 w w' := by
  have h0 := h.cell0
  have hl := h.len
  clear h
  go_enter Try.func15, Try.ntmps15
  go_wp2
  go_ret
  exact ⟨rfl, by repeat (first | exact Drawn0.refl _ | apply Drawn0.step)⟩
set_option maxHeartbeats 8000000 in
set_option maxRecDepth 100000 in
theorem Len.calls_nil (w : World) : Calls Try.prog 15 #[.pointer none] w fun e w' => e = .returned (.int .i64 0) ∧ Drawn0 w w' := by
  go_enter Try.func15, Try.ntmps15
  go_wp2
  go_ret
  exact ⟨rfl, by repeat (first | exact Drawn0.refl _ | apply Drawn0.step)⟩
set_option maxHeartbeats 8000000 in
set_option maxRecDepth 100000 in
theorem Has.calls (s b : Nat) (L : List C) (c : C) (hc : wfC c) (w : World) (h : Held w s b L) : Calls Try.prog 14 #[.pointer (some ⟨s, 0, none⟩), .agg #[.string c.f0, .int .i64 c.f1]] w fun e w' => e = .returned (.bool (decide (c ∈ L))) ∧ Below w.heap.size w w' := by
  have hlk := fun (W : World) (hW : Held W s b L) => hW.look c hc
  generalize decide (c ∈ L) = r at hlk ⊢
  go_enter Try.func14, Try.ntmps14
  go_upto_region 1 with (fail)
  obtain ⟨W, hW⟩ : ∃ W, W = w.alloc (.cells #[.string c.f0, .int .i64 c.f1] 29 (0, 0)) := ⟨_, rfl⟩
  have hb : Below w.heap.size w W := by rw [hW]; exact below_alloc (Below.refl _ _) _
  have kb : W.heap[w.heap.size]? = some (.cells #[.string c.f0, .int .i64 c.f1] 29 (0, 0)) := by rw [hW]; exact blk_new _ _
  rw [← hW]
  clear hW
  have HS : Aside0 (∀ W' : World, Below W.heap.size W W' → W'.cell? ⟨s, 0, none⟩ = some (.map (some b)) ∧ W'.cell? ⟨w.heap.size, 0, none⟩ = some (.string c.f0) ∧ W'.cell? ⟨w.heap.size, 1, none⟩ = some (.int .i64 c.f1) ∧ (Instr.lookup 49 (.map (some b)) (.agg #[.string c.f0, .int .i64 c.f1]) false).run Try.prog W' = .ok (.bool r) W') :=
    ⟨fun W' hb' => ⟨((h.below hb).below hb').cell0, blk_cell (blk_below kb hb') 0, blk_cell (blk_below kb hb') 1, hlk _ ((h.below hb).below hb')⟩⟩
  have hv0 := Below.refl W.heap.size W
  have HB := Aside0.mk hb
  clear hb kb h hlk
  go_region_held3 (fun W' => W'.cell? ⟨s, 0, none⟩ = some (.map (some b)) ∧ W'.cell? ⟨w.heap.size, 0, none⟩ = some (.string c.f0) ∧ W'.cell? ⟨w.heap.size, 1, none⟩ = some (.int .i64 c.f1) ∧ (Instr.lookup 49 (.map (some b)) (.agg #[.string c.f0, .int .i64 c.f1]) false).run Try.prog W' = .ok (.bool r) W')
    (first | exact HS.out _ hv0 | exact HS.out _ (below_drew1 hv0))
    (fail)
  go_wp2
  go_ret
  exact ⟨rfl, HB.out.trans ((by first | exact hv0 | exact below_drew1 hv0 : Below W.heap.size W _).mono HB.out.size)⟩
theorem drawn_below {w w' : World} (h : Drawn0 w w') : Below w.heap.size w w' := h.below
/-- What Add answers. -/
def addE (L : List C) (c : C) : Int := if c.f0.size = 0 ∨ 20 < c.f0.size ∨ ¬ (1 ≤ c.f1 ∧ c.f1 ≤ 3652059) then 1 else if c ∉ L ∧ 128 ≤ L.length then 4 else 0
/-- What it leaves. -/
def addR (L : List C) (c : C) : List C := if addE L c = 0 then addL c L else L
theorem Held.put {w w' : World} {s b : Nat} {L : List C} {D : DataW Unit} (h : Held w s b L) (c : C) (hc : wfC c) (hD : w.ownsMap Try.prog 29 (plainElem Try.prog 4) b L.length D) (hi : Is D L) (hown : w'.ownsMap Try.prog 29 (plainElem Try.prog 4) b (L.length + 1) (D.put (kl c) yes)) (hg : w.grownBy w' (some b)) : Held w' s b (addL c L) := by
  have hi2 := hi.put c hc
  refine ⟨(hg.block s h.lts (by have := h.ne; simpa using this)).trans h.cell, D.put (kl c) yes, ?_, hi2⟩
  obtain ⟨es, clock, hm, F, hs, hD2⟩ := hown
  refine ⟨es, clock, hm, F, ?_, hD2⟩
  have e := hi2.size_
  rw [hD2, Go.Maps.size_eq, length_sorted, List.length_map, Array.length_toList] at e
  omega
theorem bne_empty (s : ByteArray) : (s.toList == (⟨#[]⟩ : ByteArray).toList) = decide (s.size = 0) := by
  rw [toList_data, toList_data, Bool.eq_iff_iff, beq_iff_eq, decide_eq_true_iff]
  constructor
  · intro h
    have e := congrArg List.length h
    rw [Array.length_toList, Array.length_toList] at e
    exact e
  · intro h
    have : s.data = #[] := Array.eq_empty_of_size_eq_zero h
    rw [this]
theorem right_is (a : Int) (W : World) : Calls Try.prog 24 #[.int .i64 a] W fun e w' => e = .returned (.bool (decide (1 ≤ a ∧ a ≤ 3652059))) ∧ Drawn0 W w' := by
  refine date_Right.calls a _ W ?_
  unfold date_Right.f
  by_cases h : a ≥ 1
  · rw [if_pos h]; congr 1; rw [decide_eq_decide]; omega
  · rw [if_neg h]; congr 1; rw [eq_comm, decide_eq_false_iff_not]; omega
set_option maxHeartbeats 8000000 in
set_option maxRecDepth 100000 in
theorem Add.walk (s b : Nat) (L M : List C) (r : Int) (c : C) (hc : wfC c) (w : World) (h : Held w s b L) (hlen : L.length ≤ 1000) (hr : addE L c = r) (hM : addR L c = M) : Calls Try.prog 10 #[.pointer (some ⟨s, 0, none⟩), .agg #[.string c.f0, .int .i64 c.f1]] w fun e w' => e = .returned (.int .i64 r) ∧ Held w' s b M ∧ w.grownBy w' (some b) := by
  have hlk := fun (W : World) (hW : Held W s b L) => hW.look c hc
  have hln := fun (W : World) (hW : Held W s b L) => hW.len 3
  have hE := bne_empty c.f0
  have hsz : c.f0.size ≤ maxLen := hc.1
  have hR := right_is c.f1
  go_enter Try.func10, Try.ntmps10
  go_upto_region 3 with (fail)
  obtain ⟨W, hW⟩ : ∃ W, W = w.alloc (.cells #[.string c.f0, .int .i64 c.f1] 29 (0, 0)) := ⟨_, rfl⟩
  have hb : Below w.heap.size w W := by rw [hW]; exact below_alloc (Below.refl _ _) _
  have kb : W.heap[w.heap.size]? = some (.cells #[.string c.f0, .int .i64 c.f1] 29 (0, 0)) := by rw [hW]; exact blk_new _ _
  rw [← hW]
  clear hW
  have k0 : W.cell? ⟨w.heap.size, 0, none⟩ = some (.string c.f0) := blk_cell kb 0
  have k1 : W.cell? ⟨w.heap.size, 1, none⟩ = some (.int .i64 c.f1) := blk_cell kb 1
  have hH := h.below hb
  have HH := Aside0.mk hH
  have HW := Aside0.mk h
  have HB := Aside0.mk hb
  have HK := Aside0.mk kb
  have HLK := Aside0.mk hlk
  have HLN := Aside0.mk hln
  have bad : addE L c = 1 → Held W s b L ∧ w.grownBy W (some b) := fun _ => ⟨HH.out, below_grown HB.out _⟩
  have badd : ∀ W', Below W.heap.size W W' → Held W' s b L ∧ w.grownBy W' (some b) := fun W' hd => ⟨HH.out.below hd, below_grown (HB.out.trans (hd.mono HB.out.size)) _⟩
  clear h hb kb hH hlk hln bad
  have fin : ∀ (e : Int) (W' : World), addE L c = e → e ≠ 0 → Below W.heap.size W W' → Ending.returned (.int .i64 e) = Ending.returned (.int .i64 r) ∧ Held W' s b M ∧ w.grownBy W' (some b) := fun e W' he h0 hd => ⟨by rw [← hr, he], by rw [← hM, addR, he, if_neg h0]; exact (badd W' hd).1, (badd W' hd).2⟩
  have FIN := Aside0.mk fin
  clear fin badd
  by_cases z1 : c.f0.size = 0
  · have e1 : c.f0.toList = [] := by rw [toList_data, Array.toList_eq_nil_iff]; exact Array.eq_empty_of_size_eq_zero z1
    have e2 : c.f0.toList.isEmpty = true := by rw [e1]; rfl
    have ER := Aside0.mk (show addE L c = 1 by unfold addE; rw [if_pos (.inl z1)])
    clear hE z1 hR
    go_wp2_with (fail)
    go_ret
    exact FIN.out 1 _ ER.out (by decide) (Drawn0.below (by repeat (first | exact Drawn0.refl _ | apply Drawn0.step)))
  have e1 : c.f0.toList.isEmpty = false := by
    rw [List.isEmpty_eq_false_iff, toList_data]
    intro e
    exact z1 (by have := congrArg List.length e; rw [Array.length_toList] at this; exact this)
  by_cases z2 : 20 < c.f0.size
  · have e2 : decide ((20 : Int) < (c.f0.size : Int)) = true := decide_eq_true (by omega)
    have ER := Aside0.mk (show addE L c = 1 by unfold addE; rw [if_pos (.inr (.inl z2))])
    clear hE z1 z2 hR
    go_wp2_with (fail)
    go_ret
    exact FIN.out 1 _ ER.out (by decide) (Drawn0.below (by repeat (first | exact Drawn0.refl _ | apply Drawn0.step)))
  have e2 : decide ((20 : Int) < (c.f0.size : Int)) = false := decide_eq_false (by omega)
  by_cases z3 : 1 ≤ c.f1 ∧ c.f1 ≤ 3652059
  rotate_left
  · have ER := Aside0.mk (show addE L c = 1 by unfold addE; rw [if_pos (.inr (.inr z3))])
    rw [decide_eq_false z3] at hR
    clear hE z1 z2 z3
    go_wp2_with (go_at_call 24; refine (hR _).mono ?_; rintro e1 w1 ⟨rfl, n, rfl⟩)
    go_ret
    exact FIN.out 1 _ ER.out (by decide) (Drawn0.below (by repeat (first | exact Drawn0.refl _ | apply Drawn0.step)))
  rw [decide_eq_true z3] at hR
  have ER := Aside0.mk (show addE L c = if c ∉ L ∧ 128 ≤ L.length then 4 else 0 by unfold addE; rw [if_neg (by omega)])
  clear hE z1 z2 z3
  go_upto_region 5 with (go_at_call 24; refine (hR _).mono ?_; rintro e1 w1 ⟨rfl, n, rfl⟩)
  have HD := Aside0.mk (show Below W.heap.size W (W.drewN n) from (Drawn0.mk ⟨n, rfl⟩).below)
  obtain ⟨V, hV⟩ : ∃ V, V = W.drewN n := ⟨_, rfl⟩
  rw [← hV] at HD ⊢
  clear hV hR k0 k1 e1 e2
  have HS : Aside0 (∀ W' : World, Below V.heap.size V W' → W'.cell? ⟨s, 0, none⟩ = some (.map (some b)) ∧ W'.cell? ⟨w.heap.size, 0, none⟩ = some (.string c.f0) ∧ W'.cell? ⟨w.heap.size, 1, none⟩ = some (.int .i64 c.f1) ∧ (Instr.lookup 49 (.map (some b)) (.agg #[.string c.f0, .int .i64 c.f1]) false).run Try.prog W' = .ok (.bool (decide (c ∈ L))) W' ∧ (Builtin.len_ #[49] 3 #[.map (some b)]).run Try.prog W' = .ok (.int .i64 L.length) W') :=
    ⟨fun W' hb' => ⟨((HH.out.below HD.out).below hb').cell0, blk_cell (blk_below (blk_below HK.out HD.out) hb') 0, blk_cell (blk_below (blk_below HK.out HD.out) hb') 1, HLK.out _ ((HH.out.below HD.out).below hb'), HLN.out _ ((HH.out.below HD.out).below hb')⟩⟩
  have hv0 := Below.refl V.heap.size V
  clear HLK HLN
  by_cases z4 : c ∉ L ∧ 128 ≤ L.length
  · have d1 : decide (c ∈ L) = false := decide_eq_false z4.1
    have d2 : decide ((L.length : Int) ≥ 128) = true := decide_eq_true (by omega)
    have d3 : decide ((128 : Int) ≤ (L.length : Int)) = true := decide_eq_true (by omega)
    have ER2 := Aside0.mk (show addE L c = 4 by rw [ER.out, if_pos z4])
    rw [d1] at HS
    clear ER z4 d1
    obtain ⟨v0, v1, v2, _, _⟩ := HS.out V hv0
    have v3 := fun n => (HS.out (V.drewN n) (Drawn0.mk ⟨n, rfl⟩).below).2.2.2.1
    have v4 := fun n => (HS.out (V.drewN n) (Drawn0.mk ⟨n, rfl⟩).below).2.2.2.2
    go_quiet (fail)
    go_wp2
    go_ret
    exact FIN.out 4 _ ER2.out (by decide) (HD.out.trans ((Drawn0.below (Drawn0.mk ⟨nq, rfl⟩)).mono HD.out.size))
  have ER2 := Aside0.mk (show addE L c = 0 by rw [ER.out, if_neg z4])
  clear ER FIN
  by_cases z5 : c ∈ L
  · have d1 : decide (c ∈ L) = true := decide_eq_true z5
    rw [d1] at HS
    clear z4 d1
    obtain ⟨v0, v1, v2, _, _⟩ := HS.out V hv0
    have v3 := fun n => (HS.out (V.drewN n) (Drawn0.mk ⟨n, rfl⟩).below).2.2.2.1
    have v4 := fun n => (HS.out (V.drewN n) (Drawn0.mk ⟨n, rfl⟩).below).2.2.2.2
    go_quiet (fail)
    obtain ⟨U, hU⟩ : ∃ U, U = V.drewN nq := ⟨_, rfl⟩
    have hdU : Below V.heap.size V U := by rw [hU]; exact Drawn0.below (Drawn0.mk ⟨nq, rfl⟩)
    rw [← hU]
    clear hU
    obtain ⟨u0, u1, u2, _, _⟩ := HS.out U hdU
    have hWU := (HD.out.trans (hdU.mono HD.out.size) : Below W.heap.size W U)
    have hwU := (HB.out.trans (hWU.mono HB.out.size) : Below w.heap.size w U)
    have hHU := HH.out.below hWU
    obtain ⟨D, hown, hi⟩ := hHU.own
    have hkl := kl_key hc
    have hDU := Aside0.mk hHU
    have hWW := Aside0.mk hwU
    have hI := Aside0.mk hi
    have HOW := Aside0.mk hown
    have hlm : L.length < maxLen := by unfold maxLen; omega
    have hpl : plainElem (H := Unit) Try.prog 4 (.bool true) = some (yes, []) := plainElem_bool Try.underlying4 true
    have HC := Aside0.mk hc
    clear hi hHU hdU hWU hwU HS hv0 hc v0 v1 v2 v3 v4
    go_upto_region 7 with (fail)
    go_still_tail 5, (by kernel_rfl)
    change wpList _ _ _ _ _ U.drew
    go_wp2_with (at_mapUpdate; refine wpList_mapUpdate_own _ rfl _ _ _ 49 rfl 29 4 klaw Try.underlying49 _ b L.length D rfl hown hlm _ _ _ rfl rfl hkl _ [] hpl ?_; intro w3 hown3 hgrow3)
    go_ret
    have hg3 : U.grownBy w3 (some b) := ⟨hgrow3.os, hgrow3.tape, hgrow3.output, hgrow3.size, hgrow3.block⟩
    refine ⟨by rw [← hr, ER2.out]; rfl, ?_, ?_⟩
    · have e := hDU.out.put c HC.out HOW.out hI.out hown3 hg3
      rw [← hM, addR, ER2.out, if_pos rfl]
      exact e
    · exact (below_grown hWW.out (some b)).andThen (row' := some b) hg3 (fun j hj => .inr hj)
  · have d1 : decide (c ∈ L) = false := decide_eq_false z5
    have d2 : decide ((L.length : Int) ≥ 128) = false := decide_eq_false (by have : ¬ 128 ≤ L.length := fun z => z4 ⟨z5, z⟩; omega)
    have d3 : decide ((128 : Int) ≤ (L.length : Int)) = false := d2
    rw [d1] at HS
    clear z4 d1
    obtain ⟨v0, v1, v2, _, _⟩ := HS.out V hv0
    have v3 := fun n => (HS.out (V.drewN n) (Drawn0.mk ⟨n, rfl⟩).below).2.2.2.1
    have v4 := fun n => (HS.out (V.drewN n) (Drawn0.mk ⟨n, rfl⟩).below).2.2.2.2
    go_quiet (fail)
    obtain ⟨U, hU⟩ : ∃ U, U = V.drewN nq := ⟨_, rfl⟩
    have hdU : Below V.heap.size V U := by rw [hU]; exact Drawn0.below (Drawn0.mk ⟨nq, rfl⟩)
    rw [← hU]
    clear hU
    obtain ⟨u0, u1, u2, _, _⟩ := HS.out U hdU
    have hWU := (HD.out.trans (hdU.mono HD.out.size) : Below W.heap.size W U)
    have hwU := (HB.out.trans (hWU.mono HB.out.size) : Below w.heap.size w U)
    have hHU := HH.out.below hWU
    obtain ⟨D, hown, hi⟩ := hHU.own
    have hkl := kl_key hc
    have hDU := Aside0.mk hHU
    have hWW := Aside0.mk hwU
    have hI := Aside0.mk hi
    have HOW := Aside0.mk hown
    have hlm : L.length < maxLen := by unfold maxLen; omega
    have hpl : plainElem (H := Unit) Try.prog 4 (.bool true) = some (yes, []) := plainElem_bool Try.underlying4 true
    have HC := Aside0.mk hc
    clear hi hHU hdU hWU hwU HS hv0 hc v0 v1 v2 v3 v4
    go_upto_region 7 with (fail)
    go_still_tail 5, (by kernel_rfl)
    change wpList _ _ _ _ _ U.drew
    go_wp2_with (at_mapUpdate; refine wpList_mapUpdate_own _ rfl _ _ _ 49 rfl 29 4 klaw Try.underlying49 _ b L.length D rfl hown hlm _ _ _ rfl rfl hkl _ [] hpl ?_; intro w3 hown3 hgrow3)
    go_ret
    have hg3 : U.grownBy w3 (some b) := ⟨hgrow3.os, hgrow3.tape, hgrow3.output, hgrow3.size, hgrow3.block⟩
    refine ⟨by rw [← hr, ER2.out]; rfl, ?_, ?_⟩
    · have e := hDU.out.put c HC.out HOW.out hI.out hown3 hg3
      rw [← hM, addR, ER2.out, if_pos rfl]
      exact e
    · exact (below_grown hWW.out (some b)).andThen (row' := some b) hg3 (fun j hj => .inr hj)
theorem Add.calls (s b : Nat) (L : List C) (c : C) (hc : wfC c) (w : World) (h : Held w s b L) (hlen : L.length ≤ 1000) : Calls Try.prog 10 #[.pointer (some ⟨s, 0, none⟩), .agg #[.string c.f0, .int .i64 c.f1]] w fun e w' => e = .returned (.int .i64 (addE L c)) ∧ Held w' s b (addR L c) ∧ w.grownBy w' (some b) := Add.walk s b L _ _ c hc w h hlen rfl rfl
set_option maxHeartbeats 8000000 in
set_option maxRecDepth 100000 in
theorem Add.calls_nil (c : C) (w : World) : Calls Try.prog 10 #[.pointer none, .agg #[.string c.f0, .int .i64 c.f1]] w fun e w' => e = .returned (.int .i64 2) ∧ Below w.heap.size w w' := by
  go_enter Try.func10, Try.ntmps10
  go_wp2
  go_ret
  exact ⟨rfl, below_alloc (Below.refl _ _) _⟩
set_option maxHeartbeats 8000000 in
set_option maxRecDepth 100000 in
theorem Has.calls_nil (c : C) (w : World) : Calls Try.prog 14 #[.pointer none, .agg #[.string c.f0, .int .i64 c.f1]] w fun e w' => e = .returned (.bool false) ∧ Below w.heap.size w w' := by
  go_enter Try.func14, Try.ntmps14
  go_upto_region 1 with (fail)
  obtain ⟨W, hW⟩ : ∃ W, W = w.alloc (.cells #[.string c.f0, .int .i64 c.f1] 29 (0, 0)) := ⟨_, rfl⟩
  have HB := Aside0.mk (show Below w.heap.size w W by rw [hW]; exact below_alloc (Below.refl _ _) _)
  rw [← hW]
  clear hW
  go_quiet (fail)
  go_wp2
  go_ret
  exact ⟨rfl, HB.out.trans ((Drawn0.below (Drawn0.mk ⟨nq, rfl⟩)).mono HB.out.size)⟩
end Go.Proofs.Ythneeibphelofaa.QCondPlays
