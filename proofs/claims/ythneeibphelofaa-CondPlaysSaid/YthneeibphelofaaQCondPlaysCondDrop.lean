/- A store of conditions: those that are so are taken away. No conditions beyond those that each theorem names. -/
import Derived.Test.YthneeibphelofaaQCondPlaysCondHeld
namespace Go.Proofs.Ythneeibphelofaa.QCondPlays
open Go.RowKit Go.Proofs.Ythneeibphelofaa.PCondPlays Go.Proofs.YthneeibphelofaaW.PrintWords Go.Proofs.YthneeibphelofaaW.PrintLast Go.Proofs.YthneeibphelofaaW.PrintMore
set_option linter.unusedVariables false
set_option linter.unusedSimpArgs false
/-- What is there still, as long as some are to come. -/
noncomputable def rest (p : C → Bool) (L : List C) (left : Lit → Bool) : List C := L.filter fun c => !p c || left (kl c)
theorem rest_start {D : DataW Unit} {L : List C} (h : Is D L) (p : C → Bool) : rest p L (Go.Maps.has D) = L := by
  unfold rest
  rw [List.filter_eq_self]
  intro c hc
  rw [h.has_ c (h.wf c hc), decide_eq_true hc, Bool.or_true]
theorem rest_end (p : C → Bool) (L : List C) {left : Lit → Bool} (hl : ∀ k, left k = false) : rest p L left = L.filter fun c => !p c := by
  unfold rest
  exact List.filter_congr (fun c _ => by rw [hl, Bool.or_false])
theorem same_self {c : C} (h : wfC c) : (kl c).sameKey (kl c) = true := WideAt.sameKey_self (kl_is h)
theorem same_ne {c d : C} (hc : wfC c) (hd : wfC d) (h : c ≠ d) : (kl c).sameKey (kl d) = false := Go.Maps.sameKey_ne (kl_ne hc hd h)
theorem rest_stays {p : C → Bool} {L : List C} (hw : ∀ c ∈ L, wfC c) (left : Lit → Bool) {x : C} (hx : wfC x) (hp : p x = false) : rest p L (fun z => left z && !z.sameKey (kl x)) = rest p L left := by
  unfold rest
  refine List.filter_congr (fun c hc => ?_)
  by_cases e : c = x
  · subst e; rw [hp]; simp
  · dsimp only; rw [same_ne (hw c hc) hx e]; simp
theorem rest_struck {p : C → Bool} {L : List C} (hw : ∀ c ∈ L, wfC c) (left : Lit → Bool) {x : C} (hx : wfC x) (hp : p x = true) : rest p L (fun z => left z && !z.sameKey (kl x)) = (rest p L left).filter (fun d => !decide (d = x)) := by
  unfold rest
  rw [List.filter_filter]
  refine List.filter_congr (fun c hc => ?_)
  by_cases e : c = x
  · subst e; dsimp only; rw [hp, same_self hx]; simp
  · dsimp only; rw [same_ne (hw c hc) hx e]; simp [e]
theorem Is.one {D : DataW Unit} {L M : List C} (h : Is D L) (e : L = M) : Is D M := e ▸ h
theorem filter_split (p : C → Bool) : ∀ L : List C, (L.filter p).length + (L.filter fun c => !p c).length = L.length
  | [] => rfl
  | x :: r => by
    have ih := filter_split p r
    cases h : p x
    · rw [List.filter_cons, if_neg (by simp [h]), List.filter_cons, if_pos (by simp [h])]; simp only [List.length_cons]; omega
    · rw [List.filter_cons, if_pos h, List.filter_cons, if_neg (by simp [h])]; simp only [List.length_cons]; omega
theorem owns_size {w : World} {b n : Nat} {D : DataW Unit} {L : List C} (h : w.ownsMap Try.prog 29 (plainElem Try.prog 4) b n D) (hi : Is D L) : w.ownsMap Try.prog 29 (plainElem Try.prog 4) b L.length D := by
  obtain ⟨es, clock, hm, F, hs, hD2⟩ := h
  refine ⟨es, clock, hm, F, ?_, hD2⟩
  have e := hi.size_
  rw [hD2, Go.Maps.size_eq, length_sorted, List.length_map, Array.length_toList] at e
  omega
/-- What the step of a range over such a map brings. -/
structure Came (w w' : World) (b r n : Nat) (D : DataW Unit) (M : List C) (left : Lit → Bool) (cnt : Nat) (x : C) (cnt' : Nat) : Prop where
  wf : wfC x
  mem : x ∈ M
  left_ : left (kl x) = true
  ranges : w'.ranges Try.prog 29 (plainElem Try.prog 4) b r n D (fun z => left z && !z.sameKey (kl x)) cnt'
  lt : cnt' < cnt
  grown : w.grownBy w' (some r)
  size : w'.heap.size = w.heap.size
theorem next_cond {w : World} {ops : Array Oper} {rest : List Oper} {o : Oper} {a : Act} {Q : Exit → Act → World → Prop} (hg : o.guard = none) (it : Operand) (hop : o.op = Op.next it false) (b r n : Nat) (D : DataW Unit) (M : List C) (hD : Is D M) (left : Lit → Bool) (cnt : Nat)
    (hit : a.eval it = .pointer (some ⟨r, 0, none⟩)) (h : w.ranges Try.prog 29 (plainElem Try.prog 4) b r n D left cnt)
    (hDone : cnt = 0 ∧ (∀ k, left k = false) → wpList Try.prog ops Q rest (a.put o.dst (.tuple #[.bool false])) w)
    (hMore : ∀ (x : C) (w' : World) (cnt' : Nat), Came w w' b r n D M left cnt x cnt' → (Instr.entry (.pointer (some ⟨r, 0, none⟩))).run Try.prog w' = .ok (.tuple #[.agg #[.string x.f0, .int .i64 x.f1], .bool true]) w' → wpList Try.prog ops Q rest (a.put o.dst (.tuple #[.bool true, .agg #[.string x.f0, .int .i64 x.f1], .bool true])) w') :
    wpList Try.prog ops Q (o :: rest) a w := by
  refine wpList_next_ranges _ hg it hop 29 klaw _ (fun x : C => Value.agg #[.string x.f0, .int .i64 x.f1]) Value.bool (fun key kl hk => by obtain ⟨x, _, hx⟩ := key_inv hk; exact ⟨x, hx⟩) (fun v y hv => by obtain ⟨a, ha, _⟩ := plainElem_bool_inv Try.underlying4 hv; exact ⟨a, ha⟩) b r n D left cnt hit h (fun h1 h2 => hDone ⟨h1, h2⟩) ?_
  intro x c k y w' cnt' hkey hl hv hat hr hlt hgr hsz hen
  obtain ⟨x2, hx2, e2⟩ := key_inv hkey
  have ex : x = x2 := cv_inj (by rw [← e2]; rfl)
  subst ex
  have ek : k = kl x := Option.some.inj (hkey.symm.trans (kl_key hx2))
  subst ek
  have hh := Go.Maps.has_true_of_atKey hat
  rw [hD.has_ x hx2, decide_eq_true_iff] at hh
  have hc : c = true := by
    have h1 := hat no
    rw [hD.at_ x hx2, decide_eq_true hh] at h1
    obtain ⟨a, ha, hy⟩ := plainElem_bool_inv Try.underlying4 hv
    cases ha
    rw [hy] at h1
    simpa using h1.symm
  subst hc
  exact hMore x w' cnt' ⟨hx2, hh, hl, hr, hlt, hgr, hsz⟩ hen
set_option maxHeartbeats 8000000 in
set_option maxRecDepth 100000 in
theorem drop.calls (p : C → Bool) (g : Nat) (cb : Array Value) (eg : ∀ args w, (callFunc g args).run Try.prog w = .ok (.enter g args) w) (s b : Nat) (L : List C) (w : World) (h : Held w s b L) (hlen : L.length ≤ 1000)
    (hp : ∀ (W : World) (c : C), w.grownBy W (some b) → Calls Try.prog g (#[.agg #[.string c.f0, .int .i64 c.f1]] ++ cb) W fun e w' => e = .returned (.bool (p c)) ∧ Below W.heap.size W w') :
    Calls Try.prog 30 #[.pointer (some ⟨s, 0, none⟩), .func (.func g) #[] cb] w fun e w' => e = .returned (.int .i64 (L.filter p).length) ∧ Held w' s b (L.filter fun c => !p c) ∧ w.grownBy w' (some b) := by
  obtain ⟨D0, hown, hi0⟩ := h.own
  have h0 := h.cell0
  have HH := Aside0.mk h
  have hne := h.ne
  have hsb : some s ≠ some b := by simpa using hne
  have hlt := h.ltb
  have hwf := h.wf
  have HI := Aside0.mk hi0
  clear h hi0
  go_enter Try.func30, Try.ntmps30
  go_wp2_with (first
    | (at_range; refine wpList_range_own _ rfl _ 49 rfl 29 4 klaw Try.underlying49 _ b L.length D0 rfl hown ?_; intro w0 hrg0 hg0 hs0)
    | go_in)
  go_frame
  go_loopg [5] L.length (fun gg v5 wr => ∃ (left : Lit → Bool) (cnt : Nat) (D : DataW Unit), v5 = .int .i64 ((L.length - (rest p L left).length : Nat) : Int) ∧ Aside0 (wr.ranges Try.prog 29 (plainElem Try.prog 4) b w.heap.size L.length D left cnt) ∧ Aside0 (Is D (rest p L left)) ∧ Aside0 (w.grownBy wr (some b)) ∧ Aside0 (cnt ≤ gg))
  case atStart =>
    refine ⟨_, _, D0, ?_, ⟨hrg0⟩, ⟨HI.out.one (rest_start HI.out p).symm⟩, ⟨hg0.but _⟩, ⟨?_⟩⟩
    · rw [rest_start HI.out p, Nat.sub_self]; rfl
    · rw [HI.out.size_]; exact Nat.le_refl _
  case round =>
    obtain ⟨left, cnt, D, rfl, HR, HD, HG, HC⟩ := hrel
    have hrg := HR.out
    clear hown
    have hD := HD.out
    go_wp2_with (first
      | (at_next; refine next_cond rfl _ rfl b w.heap.size L.length D _ hD left cnt rfl hrg ?_ ?_)
      | go_in)
    · intro _ hl0
      go_wp2
      go_ret
      have e := rest_end p L hl0
      have hl := filter_split p L
      refine ⟨?_, ⟨(HG.out.block s HH.out.lts hsb).trans HH.out.cell, D, owns_size hrg.owns (hD.one e), hD.one e⟩, HG.out⟩
      show Ending.returned (.int .i64 ((L.length - (rest p L left).length : Nat) : Int)) = _
      rw [e, show L.length - (L.filter fun c => !p c).length = (L.filter p).length by omega]
    · intro x w1 cnt1 hcame hen
      have hgw1 : w.grownBy w1 (some b) := HG.out.andThen hcame.grown (fun j hj => by cases hj; exact .inl (Nat.le_refl _))
      have HP := Aside0.mk (fun (W : World) (hW : Below w1.heap.size w1 W) => hp W x (hgw1.andThen (below_grown hW none) (by simp)))
      have HCM := Aside0.mk hcame
      have HGW := Aside0.mk hgw1
      have HDD := Aside0.mk hD
      have hM : (rest p L left).length ≤ L.length := List.length_filter_le _ _
      have hs1 : w1.cell? ⟨s, 0, none⟩ = some (.map (some b)) := (World.cell?_of_block (w := w) (hgw1.block s HH.out.lts hsb)).trans h0
      have HS1 := Aside0.mk hs1
      have hal : ∀ o, Below w1.heap.size w1 (w1.alloc o) := fun o => below_alloc (Below.refl _ _) _
      clear hp hcame hgw1 hD hrg HR hs1
      generalize hM2 : (rest p L left).length = m at hM ⊢
      have HM2 := Aside0.mk hM2
      clear hM2
      cases hq : p x with
      | true =>
        have hcall := fun (W : World) (hW : Below w1.heap.size w1 W) => HP.out W hW
        rw [hq] at hcall
        go_wp2_with (go_at_fn g; refine (hcall _ (hal _)).mono ?_; rintro e w2 ⟨rfl, hb2⟩)
        have hb1 : Below w1.heap.size w1 w2 := (hal _).trans (hb2.mono (hal _).size)
        have k2 := blk_below (blk_new w1 (.cells #[.string x.f0, .int .i64 x.f1] 29 (0, 0))) hb2
        have x0 : w2.cell? ⟨w1.heap.size, 0, none⟩ = some (.string x.f0) := blk_cell k2 0
        have x1 : w2.cell? ⟨w1.heap.size, 1, none⟩ = some (.int .i64 x.f1) := blk_cell k2 1
        have x2 : w2.cell? ⟨s, 0, none⟩ = some (.map (some b)) := (hb1.cell (p := ⟨s, 0, none⟩) (World.block_lt_of_cell? _ _ HS1.out)).trans HS1.out
        have hrgd : w2.drew.ranges Try.prog 29 (plainElem Try.prog 4) b w.heap.size L.length D (fun z => left z && !z.sameKey (kl x)) cnt1 := HCM.out.ranges.kept (w' := w2.drew) (row := none) ⟨hb1.os, hb1.tape, hb1.output, hb1.size, fun k hk _ => hb1.block k hk⟩ (by simp) (by simp)
        have hkl := kl_key HCM.out.wf
        have HG2 := Aside0.mk (show w.grownBy w2 (some b) from HGW.out.andThen (below_grown hb1 none) (by simp))
        clear hb1 k2 hb2 hcall HP HS1
        go_still_tail 5, (by kernel_rfl)
        change wpList _ _ _ _ _ w2.drew
        go_wp2_with (first
          | (at_delete; refine wpList_delete_ranges _ rfl _ _ 49 29 rfl 4 klaw Try.underlying49 _ b w.heap.size L.length D _ cnt1 rfl hrgd _ _ rfl hkl ?_; intro w3 cnt2 hrg3 hle hturn; go_frame)
          | go_in)
        have hlen2 : (rest p L (fun z => left z && !z.sameKey (kl x))).length + 1 = m := by
          have e := filter_ne_length x (L := rest p L left) HDD.out.sorted.nodup
          rw [rest_struck hwf left HCM.out.wf hq, ← HM2.out]
          rw [if_pos HCM.out.mem] at e
          exact e
        go_roundg cnt2
        case measure => have := HC.out; have := HCM.out.lt; omega
        case rel =>
          rw [Go.Maps.strike_twice] at hrg3
          refine ⟨_, cnt2, _, ?_, ⟨hrg3⟩, ⟨(HDD.out.del x HCM.out.wf).one (rest_struck hwf left HCM.out.wf hq).symm⟩, ⟨?_⟩, ⟨Nat.le_refl _⟩⟩
          · congr 1
            omega
          · have ht := hturn.grown
            exact HG2.out.andThen (row' := some b) ⟨ht.os, ht.tape, ht.output, ht.size, ht.block⟩ (fun j hj => by cases hj; exact .inr rfl)
      | false =>
        have hcall := fun (W : World) (hW : Below w1.heap.size w1 W) => HP.out W hW
        rw [hq] at hcall
        go_wp2_with (go_at_fn g; refine (hcall _ (hal _)).mono ?_; rintro e w2 ⟨rfl, hb2⟩)
        have hb1 : Below w1.heap.size w1 w2 := (hal _).trans (hb2.mono (hal _).size)
        go_roundg cnt1
        case measure => have := HC.out; have := HCM.out.lt; omega
        case rel =>
          have e := rest_stays hwf left HCM.out.wf hq
          exact ⟨_, cnt1, D, by rw [e, HM2.out], ⟨HCM.out.ranges.kept (below_grown hb1 none) (by simp) (by simp)⟩, ⟨HDD.out.one e.symm⟩, ⟨HGW.out.andThen (below_grown hb1 none) (by simp)⟩, ⟨Nat.le_refl _⟩⟩
/-! ### The three that take away -/
set_option maxHeartbeats 8000000 in
set_option maxRecDepth 100000 in
theorem Clean1.calls (q : Nat) (day : Int) (c : C) (W : World) (hq : W.cell? ⟨q, 0, none⟩ = some (.int .i64 day)) : Calls Try.prog 31 (#[.agg #[.string c.f0, .int .i64 c.f1]] ++ #[.pointer (some ⟨q, 0, none⟩)]) W fun e w' => e = .returned (.bool (decide (c.f1 < day))) ∧ Below W.heap.size W w' := by
  replace hq := fun (o : Obj) => ((below_alloc (Below.refl W.heap.size W) o).cell (World.block_lt_of_cell? W _ hq)).trans hq
  go_enter Try.func31, Try.ntmps31
  go_wp2
  go_ret
  exact ⟨rfl, below_alloc (Below.refl _ _) _⟩
set_option maxHeartbeats 8000000 in
set_option maxRecDepth 100000 in
theorem DropAll1.calls (q : Nat) (name : ByteArray) (c : C) (W : World) (hq : W.cell? ⟨q, 0, none⟩ = some (.string name)) : Calls Try.prog 33 (#[.agg #[.string c.f0, .int .i64 c.f1]] ++ #[.pointer (some ⟨q, 0, none⟩)]) W fun e w' => e = .returned (.bool (c.f0.toList == name.toList)) ∧ Below W.heap.size W w' := by
  replace hq := fun (o : Obj) => ((below_alloc (Below.refl W.heap.size W) o).cell (World.block_lt_of_cell? W _ hq)).trans hq
  go_enter Try.func33, Try.ntmps33
  go_wp2
  go_ret
  exact ⟨rfl, below_alloc (Below.refl _ _) _⟩
set_option maxHeartbeats 8000000 in
set_option maxRecDepth 100000 in
theorem Drop1.calls (q : Nat) (d c : C) (W : World) (h0 : W.cell? ⟨q, 0, none⟩ = some (.string d.f0)) (h1 : W.cell? ⟨q, 1, none⟩ = some (.int .i64 d.f1)) : Calls Try.prog 32 (#[.agg #[.string c.f0, .int .i64 c.f1]] ++ #[.pointer (some ⟨q, 0, none⟩)]) W fun e w' => e = .returned (.bool (decide (c = d))) ∧ Below W.heap.size W w' := by
  have hlt := World.block_lt_of_cell? W _ h0
  replace h0 := fun (o : Obj) => ((below_alloc (Below.refl W.heap.size W) o).cell hlt).trans h0
  replace h1 := fun (o : Obj) => ((below_alloc (Below.refl W.heap.size W) o).cell (p := ⟨q, 1, none⟩) hlt).trans h1
  by_cases e : c = d
  · subst e
    rw [decide_eq_true rfl]
    go_enter Try.func32, Try.ntmps32
    go_wp2
    go_ret
    exact ⟨rfl, below_alloc (Below.refl _ _) _⟩
  · rw [decide_eq_false e]
    by_cases e1 : c.f0.toList = d.f0.toList
    · have e2 : ¬ c.f1 = d.f1 := fun z => e (by
        obtain ⟨a, x⟩ := c
        obtain ⟨b, y⟩ := d
        rw [show a = b from toList_inj e1, show x = y from z])
      have e3 : (c.f1 == d.f1) = false := beq_eq_false_iff_ne.mpr e2
      have e4 : (c.f0.toList == d.f0.toList) = true := beq_iff_eq.mpr e1
      clear e
      go_enter Try.func32, Try.ntmps32
      go_wp2
      go_ret
      exact ⟨rfl, below_alloc (Below.refl _ _) _⟩
    · have e4 : (c.f0.toList == d.f0.toList) = false := beq_eq_false_iff_ne.mpr e1
      clear e
      go_enter Try.func32, Try.ntmps32
      go_wp2
      go_ret
      exact ⟨rfl, below_alloc (Below.refl _ _) _⟩
set_option maxHeartbeats 8000000 in
set_option maxRecDepth 100000 in
theorem Clean.calls (s b : Nat) (L : List C) (day : Int) (w : World) (h : Held w s b L) (hlen : L.length ≤ 1000) : Calls Try.prog 13 #[.pointer (some ⟨s, 0, none⟩), .int .i64 day] w fun e w' => e = .returned (.int .i64 (L.filter fun c => decide (c.f1 < day)).length) ∧ Held w' s b (L.filter fun c => !decide (c.f1 < day)) ∧ w.grownBy w' (some b) := by
  have eg : ∀ args w, (callFunc 31 args).run Try.prog w = .ok (.enter 31 args) w := enters_of Try.func31 (by kernel_rfl) rfl
  have hb := below_alloc (Below.refl w.heap.size w) (.cells #[.int .i64 day] 2 (0, 0))
  have hcon := drop.calls (fun c => decide (c.f1 < day)) 31 #[.pointer (some ⟨w.heap.size, 0, none⟩)] eg s b L _ (h.below hb) hlen (fun W c hW => Clean1.calls w.heap.size day c W ((World.cell?_of_block (w := w.alloc (.cells #[.int .i64 day] 2 (0, 0))) (hW.block w.heap.size (by simp) (by have := h.ltb; simp; omega))).trans (blk_cell (blk_new w _) 0)))
  have HG := Aside0.mk (below_grown hb (some b))
  clear hb eg
  go_enter Try.func13, Try.ntmps13
  go_wp2_with (go_at_call 30; refine hcon.mono ?_; rintro e w1 ⟨rfl, hh, hg⟩)
  go_ret
  exact ⟨rfl, hh, HG.out.andThen hg (fun j hj => .inr hj)⟩
set_option maxHeartbeats 8000000 in
set_option maxRecDepth 100000 in
theorem DropAll.calls (s b : Nat) (L : List C) (name : ByteArray) (w : World) (h : Held w s b L) (hlen : L.length ≤ 1000) : Calls Try.prog 19 #[.pointer (some ⟨s, 0, none⟩), .string name] w fun e w' => e = .returned (.int .i64 (L.filter fun c => c.f0.toList == name.toList).length) ∧ Held w' s b (L.filter fun c => !(c.f0.toList == name.toList)) ∧ w.grownBy w' (some b) := by
  have eg : ∀ args w, (callFunc 33 args).run Try.prog w = .ok (.enter 33 args) w := enters_of Try.func33 (by kernel_rfl) rfl
  have hb := below_alloc (Below.refl w.heap.size w) (.cells #[.string name] 9 (0, 0))
  have hcon := drop.calls (fun c => c.f0.toList == name.toList) 33 #[.pointer (some ⟨w.heap.size, 0, none⟩)] eg s b L _ (h.below hb) hlen (fun W c hW => DropAll1.calls w.heap.size name c W ((World.cell?_of_block (w := w.alloc (.cells #[.string name] 9 (0, 0))) (hW.block w.heap.size (by simp) (by have := h.ltb; simp; omega))).trans (blk_cell (blk_new w _) 0)))
  have HG := Aside0.mk (below_grown hb (some b))
  clear hb eg
  go_enter Try.func19, Try.ntmps19
  go_wp2_with (go_at_call 30; refine hcon.mono ?_; rintro e w1 ⟨rfl, hh, hg⟩)
  go_ret
  exact ⟨rfl, hh, HG.out.andThen hg (fun j hj => .inr hj)⟩
theorem filter_eq_one (d : C) {L : List C} (hn : L.Nodup) : (L.filter fun c => decide (c = d)).length = if d ∈ L then 1 else 0 := by
  have a := filter_split (fun c => decide (c = d)) L
  have b := filter_ne_length d hn
  omega
set_option maxHeartbeats 8000000 in
set_option maxRecDepth 100000 in
theorem Drop.calls (s b : Nat) (L : List C) (d : C) (w : World) (h : Held w s b L) (hlen : L.length ≤ 1000) : Calls Try.prog 16 #[.pointer (some ⟨s, 0, none⟩), .agg #[.string d.f0, .int .i64 d.f1]] w fun e w' => e = .returned (.bool (decide (d ∈ L))) ∧ Held w' s b (L.filter fun c => !decide (c = d)) ∧ w.grownBy w' (some b) := by
  have eg : ∀ args w, (callFunc 32 args).run Try.prog w = .ok (.enter 32 args) w := enters_of Try.func32 (by kernel_rfl) rfl
  have hb := below_alloc (Below.refl w.heap.size w) (.cells #[.string d.f0, .int .i64 d.f1] 29 (0, 0))
  have hcon := drop.calls (fun c => decide (c = d)) 32 #[.pointer (some ⟨w.heap.size, 0, none⟩)] eg s b L _ (h.below hb) hlen (fun W c hW => by
    have e := hW.block w.heap.size (by simp) (by have := h.ltb; simp; omega)
    exact Drop1.calls w.heap.size d c W ((World.cell?_of_block (w := w.alloc (.cells #[.string d.f0, .int .i64 d.f1] 29 (0, 0))) (a := ⟨w.heap.size, 0, none⟩) e).trans (blk_cell (blk_new w _) 0)) ((World.cell?_of_block (w := w.alloc (.cells #[.string d.f0, .int .i64 d.f1] 29 (0, 0))) (a := ⟨w.heap.size, 1, none⟩) e).trans (blk_cell (blk_new w _) 1)))
  rw [filter_eq_one d h.sorted.nodup] at hcon
  have HG := Aside0.mk (below_grown hb (some b))
  clear hb eg
  by_cases z : d ∈ L
  · rw [if_pos z] at hcon
    rw [decide_eq_true z]
    go_enter Try.func16, Try.ntmps16
    go_wp2_with (go_at_call 30; refine hcon.mono ?_; rintro e w1 ⟨rfl, hh, hg⟩)
    go_ret
    exact ⟨rfl, hh, HG.out.andThen hg (fun j hj => .inr hj)⟩
  · rw [if_neg z] at hcon
    rw [decide_eq_false z]
    go_enter Try.func16, Try.ntmps16
    go_wp2_with (go_at_call 30; refine hcon.mono ?_; rintro e w1 ⟨rfl, hh, hg⟩)
    go_ret
    exact ⟨rfl, hh, HG.out.andThen hg (fun j hj => .inr hj)⟩
end Go.Proofs.Ythneeibphelofaa.QCondPlays
