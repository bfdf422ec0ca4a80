/- A pool in memory; New, Units, Free. No conditions beyond those that each theorem names. -/
import Derived.Test.YtgdnljhndjlefaaQNeedFitsPoolModel
namespace Go.Proofs.Ytgdnljhndjlefaa.QNeedFits
open Go.RowKit Go.Proofs.Ytgdnljhndjlefaa.PNeedFits Go.Proofs.YtgdnljhndjlefaaW.PrintWords Go.Proofs.YtgdnljhndjlefaaW.PrintLast Go.Proofs.YtgdnljhndjlefaaW.PrintMore Go.Proofs.Ytgdnljhndjlefaa.MMaps
set_option linter.unusedVariables false
set_option linter.unusedSimpArgs false
set_option maxRecDepth 100000
@[go_sem] theorem as_uu (v : Value) (w : World) : (Instr.typeAssert (.iface 72 v) 70 72 true).run Try.prog w = .ok (.tuple #[v, .bool true]) w := by kernel_rfl
@[go_sem] theorem as_ul (v : Value) (w : World) : (Instr.typeAssert (.iface 72 v) 70 74 true).run Try.prog w = .ok (.tuple #[.agg #[], .bool false]) w := by kernel_rfl
@[go_sem] theorem as_lu (v : Value) (w : World) : (Instr.typeAssert (.iface 74 v) 70 72 true).run Try.prog w = .ok (.tuple #[.int .i64 0, .bool false]) w := by kernel_rfl
@[go_sem] theorem as_ll (v : Value) (w : World) : (Instr.typeAssert (.iface 74 v) 70 74 true).run Try.prog w = .ok (.tuple #[v, .bool true]) w := by kernel_rfl
@[go_sem] theorem as_nu (w : World) : (Instr.typeAssert .nilIface 70 72 true).run Try.prog w = .ok (.tuple #[.int .i64 0, .bool false]) w := by kernel_rfl
@[go_sem] theorem as_nl (w : World) : (Instr.typeAssert .nilIface 70 74 true).run Try.prog w = .ok (.tuple #[.agg #[], .bool false]) w := by kernel_rfl
/-- Block p is a pool: its maps lie in bt and bh; its resources are R, and H is held. -/
structure PoolAt (w : World) (p bt bh : Nat) (R : List Rs) (H : List Hd) : Prop where
  cell : w.heap[p]? = some (.cells #[.map (some bt), .map (some bh)] 68 (0, 0))
  things : MapAt KS w bt R.length (fT R)
  held : MapAt KK w bh H.length (fH H)
  ne : bt ≠ bh
  good : Good R H
theorem PoolAt.ltp {w : World} {p bt bh : Nat} {R : List Rs} {H : List Hd} (h : PoolAt w p bt bh R H) : p < w.heap.size := blk_lt h.cell
theorem PoolAt.net {w : World} {p bt bh : Nat} {R : List Rs} {H : List Hd} (h : PoolAt w p bt bh R H) : p ≠ bt := by
  intro e
  obtain ⟨es, c, hm⟩ := h.things.isMap
  have := h.cell
  rw [e, hm] at this
  cases this
theorem PoolAt.neh {w : World} {p bt bh : Nat} {R : List Rs} {H : List Hd} (h : PoolAt w p bt bh R H) : p ≠ bh := by
  intro e
  obtain ⟨es, c, hm⟩ := h.held.isMap
  have := h.cell
  rw [e, hm] at this
  cases this
theorem PoolAt.kept {w w' : World} {p bt bh : Nat} {R : List Rs} {H : List Hd} {row : Option Nat} (h : PoolAt w p bt bh R H) (hg : w.grownBy w' row) (h1 : some p ≠ row) (h2 : some bt ≠ row) (h3 : some bh ≠ row) : PoolAt w' p bt bh R H :=
  ⟨(hg.block p h.ltp h1).trans h.cell, h.things.kept hg h2, h.held.kept hg h3, h.ne, h.good⟩
theorem below_grown {w w' : World} (h : Below w.heap.size w w') (row : Option Nat) : w.grownBy w' row :=
  ⟨h.os, h.tape, h.output, h.size, fun k hk _ => h.block k hk⟩
theorem grown_below {B b : Nat} {w w' : World} (hg : w.grownBy w' (some b)) (h1 : B ≤ b) (h2 : B ≤ w.heap.size) : Below B w w' :=
  ⟨hg.os, hg.tape, hg.output, hg.size, fun k hk => hg.block k (by omega) (by simp; omega)⟩
theorem below_of_grown {w w' : World} (h : w.grownBy w' none) : Below w.heap.size w w' := ⟨h.os, h.tape, h.output, h.size, fun k hk => h.block k hk (by simp)⟩
theorem below_go {B : Nat} {W w1 w2 : World} (h : Below B W w1) (hB : B ≤ w1.heap.size) (h2 : Below w1.heap.size w1 w2) : Below B W w2 := h.trans (h2.mono hB)
theorem PoolAt.below {w w' : World} {p bt bh : Nat} {R : List Rs} {H : List Hd} (h : PoolAt w p bt bh R H) (hb : Below w.heap.size w w') : PoolAt w' p bt bh R H :=
  h.kept (below_grown hb none) (by simp) (by simp) (by simp)
/-- What a lookup of a name's thing gives. -/
theorem PoolAt.thing {w : World} {p bt bh : Nat} {R : List Rs} {H : List Hd} (h : PoolAt w p bt bh R H) (s : ByteArray) (hs : s.size ≤ maxLen) : (Instr.lookup 65 (.map (some bt)) (.string s) false).run Try.prog w = .ok ((fT R s).getD .nilIface) w :=
  h.things.look Try.underlying65 (z := .nilIface) (by rfl) s hs
theorem PoolAt.thingOk {w : World} {p bt bh : Nat} {R : List Rs} {H : List Hd} (h : PoolAt w p bt bh R H) (s : ByteArray) (hs : s.size ≤ maxLen) : (Instr.lookup 65 (.map (some bt)) (.string s) true).run Try.prog w = .ok (.tuple #[(fT R s).getD .nilIface, .bool (fT R s).isSome]) w :=
  h.things.lookOk Try.underlying65 (z := .nilIface) (by rfl) s hs
set_option maxHeartbeats 8000000 in
theorem Units.calls_nil (s : ByteArray) (w : World) : Calls Try.prog 21 #[.pointer none, .string s] w fun e w' => e = .returned (.tuple #[.int .i64 0, .int .i64 2]) ∧ Drawn0 w w' := by
  go_enter Try.func21, Try.ntmps21
  go_wp2
  go_ret2
  exact ⟨rfl, Drawn0.refl _⟩
set_option maxHeartbeats 8000000 in
theorem Units.calls (p bt bh : Nat) (R : List Rs) (H : List Hd) (s : ByteArray) (hs : s.size ≤ maxLen) (w : World) (h : PoolAt w p bt bh R H) : Calls Try.prog 21 #[.pointer (some ⟨p, 0, none⟩), .string s] w fun e w' => e = .returned (.tuple #[.int .i64 (unitsOf R s).1, .int .i64 (unitsOf R s).2]) ∧ Below w.heap.size w w' := by
  have h0 : w.cell? ⟨p, 0, none⟩ = some (.map (some bt)) := blk_cell h.cell 0
  have hl := h.thing s hs
  obtain ⟨a, ha⟩ : ∃ a, unitsOf R s = a := ⟨_, rfl⟩
  rw [ha]
  clear h
  unfold fT at hl
  unfold unitsOf at ha
  cases hf : findR R s with
  | none =>
    rw [hf] at hl ha
    subst ha
    simp only [Option.map_none, Option.getD_none] at hl
    go_enter Try.func21, Try.ntmps21
    go_wp2
    go_ret2
    exact ⟨rfl, Below.refl _ _⟩
  | some r =>
    rw [hf] at hl ha
    subst ha
    simp only [Option.map_some, Option.getD_some, tv] at hl
    clear hf
    obtain ⟨r0, r1, r2⟩ := r
    cases r2 with
    | true =>
      replace hl := hl
      simp only [if_true] at hl
      go_enter Try.func21, Try.ntmps21
      go_wp2
      go_ret2
      exact ⟨rfl, by first | exact below_alloc (Below.refl _ _) _ | exact Below.refl _ _⟩
    | false =>
      simp only [Bool.false_eq_true, if_false] at hl
      go_enter Try.func21, Try.ntmps21
      go_wp2
      go_ret2
      exact ⟨rfl, by first | exact below_alloc (Below.refl _ _) _ | exact Below.refl _ _⟩
set_option maxHeartbeats 8000000 in
theorem Free.calls_nil (s : ByteArray) (w : World) : Calls Try.prog 22 #[.pointer none, .string s] w fun e w' => e = .returned (.tuple #[.int .i64 0, .int .i64 2]) ∧ Drawn0 w w' := by
  go_enter Try.func22, Try.ntmps22
  go_wp2_with (go_at_call 21; refine (Units.calls_nil s _).mono ?_; rintro e w1 ⟨rfl, d1⟩)
  go_ret2
  exact ⟨rfl, d1⟩
/-- What a range brings of what is held. -/
theorem came_hd {w w' : World} {b r n : Nat} {D : DataW Value} {H : List Hd} {left : Lit → Bool} {cnt cnt' : Nat} {x : Key} {v : Value} (h : Came KK w w' b r n D (fH H) left cnt x v cnt') : ∃ y ∈ H, kf y = x ∧ v = nv y := fH_mem h.mem
set_option maxHeartbeats 8000000 in
theorem Free.calls (p bt bh : Nat) (R : List Rs) (H : List Hd) (s : ByteArray) (hs : s.size ≤ maxLen) (w : World) (h : PoolAt w p bt bh R H) : Calls Try.prog 22 #[.pointer (some ⟨p, 0, none⟩), .string s] w fun e w' => e = .returned (.tuple #[.int .i64 (freeOf R H s).1, .int .i64 (freeOf R H s).2]) ∧ Below w.heap.size w w' := by
  have hU := Units.calls p bt bh R H s hs w h
  have HP := Aside0.mk h
  have hub : -1000 ≤ (unitsOf R s).1 ∧ (unitsOf R s).1 ≤ 1000 := by
    unfold unitsOf
    cases hf : findR R s with
    | none => simp
    | some r =>
      have := h.good.rwf r (List.mem_of_find?_eq_some hf)
      dsimp only
      split
      · simp
      · dsimp only; omega
  clear h
  unfold freeOf
  generalize (unitsOf R s).1 = u at *
  generalize (unitsOf R s).2 = ee at *
  by_cases he : ee = 0
  · subst he
    rw [if_pos rfl]
    obtain ⟨a, ha⟩ : ∃ a, u - sumBy (ofName s) H = a := ⟨_, rfl⟩
    rw [ha]
    have HA := Aside0.mk ha
    clear ha
    go_enter Try.func22, Try.ntmps22
    go_upto_region 4 with (go_at_call 21; refine hU.mono ?_; rintro e w1 ⟨rfl, B1⟩)
    have hP1 := HP.out.below B1
    have c1 : w1.cell? ⟨p, 1, none⟩ = some (.map (some bh)) := blk_cell hP1.cell 1
    obtain ⟨D0, hown, hsays, hsz⟩ := hP1.held.own
    have HG := Aside0.mk hP1.good
    have HB1 := Aside0.mk B1
    clear hP1 B1 hU HP
    have HSY := Aside0.mk hsays
    clear hsays
    go_wp2_with (first
      | (at_range; refine wpList_range_own _ rfl _ 66 rfl 79 52 KK.law Try.underlying66 RV bh H.length D0 rfl hown ?_; intro w0 hrg0 hg0 hs0)
      | go_in)
    go_frame
    go_loopg [6] H.length (fun gg v6 wr => ∃ (left : Lit → Bool) (cnt : Nat), v6 = .int .i64 (u - sumBy (met (ofName s) left) H) ∧ Aside0 (wr.ranges Try.prog 79 RV bh w1.heap.size H.length D0 left cnt) ∧ Aside0 (Below w.heap.size w wr) ∧ Aside0 (cnt ≤ gg))
    case atStart =>
      refine ⟨_, _, ?_, ⟨hrg0⟩, ⟨HB1.out.trans ((below_of_grown hg0).mono HB1.out.size)⟩, ⟨?_⟩⟩
      · rw [met_start (ofName s) (fun h hh => by rw [HSY.out.has_ _ (HG.out.hwf h hh).1, fH_own HG.out.sorted.apart hh]; rfl)]
        rw [Int.sub_zero]
      · rw [hsz]; exact Nat.le_refl _
    case round =>
      obtain ⟨left, cnt, rfl, HR, HB, HC⟩ := hrel
      have hrg := HR.out
      clear hown
      have hsays := HSY.out
      go_wp2_with (first
        | (at_next; refine next_key KK rfl _ rfl bh w1.heap.size H.length D0 (fH H) hsays left cnt rfl hrg ?_ ?_)
        | go_in)
      · intro _ hl0
        go_wp2
        go_ret2
        refine ⟨?_, HB.out⟩
        rw [met_end (ofName s) hl0 H, HA.out]
        rfl
      · intro x v w2 cnt2 hcame hen
        obtain ⟨y, hy, rfl, rfl⟩ := fH_mem hcame.mem
        have ekv : KK.kv (kf y) = .agg #[.int .i64 y.f0, .string y.f1] := rfl
        rw [ekv] at hen ⊢
        have hst := met_step (ofName s) HG.out.sorted.apart (fun h hh => (HG.out.hwf h hh).1) hy hcame.left_
        have hbd : ∀ h ∈ H, 0 ≤ ofName s h ∧ ofName s h ≤ 1000 := fun h hh => by
          have := HG.out.hwf h hh
          unfold ofName
          split <;> omega
        have hb1 := met_le (left := left) hbd
        have hb2 := hbd y hy
        have hyb := HG.out.hwf y hy
        have hln := HG.out.hlen
        have HCM := Aside0.mk hcame
        clear hcame hsays hrg HR hbd ekv
        unfold nv at hen
        unfold nv
        generalize hS : sumBy (met (ofName s) left) H = S at *
        have HST := Aside0.mk hst
        clear hst hS
        cases hq : eqS y.f1 s with
        | true =>
          have eo : ofName s y = y.f2 := by unfold ofName; rw [hq, if_pos rfl]
          have t1 : (y.f1.toList == s.toList) = true := hq
          rw [eo] at hb2
          go_wp2
          go_roundg cnt2
          case measure => have := HC.out; have := HCM.out.lt; omega
          case rel =>
            refine ⟨_, cnt2, ?_, ⟨HCM.out.ranges.alloc _ |>.alloc _⟩, ⟨?_⟩, ⟨Nat.le_refl _⟩⟩
            · rw [HST.out, eo]; go_num
            · exact below_alloc (below_alloc (HB.out.grown HCM.out.grown HB.out.size (fun k e => by cases e; exact HB1.out.size)) _) _
        | false =>
          have eo : ofName s y = 0 := by unfold ofName; rw [hq, if_neg (by simp)]
          have t1 : (y.f1.toList == s.toList) = false := hq
          go_wp2
          go_roundg cnt2
          case measure => have := HC.out; have := HCM.out.lt; omega
          case rel =>
            refine ⟨_, cnt2, ?_, ⟨HCM.out.ranges.alloc _ |>.alloc _⟩, ⟨?_⟩, ⟨Nat.le_refl _⟩⟩
            · rw [HST.out, eo]; go_num
            · exact below_alloc (below_alloc (HB.out.grown HCM.out.grown HB.out.size (fun k e => by cases e; exact HB1.out.size)) _) _
  · rw [if_neg he]
    have n0 : (ee == 0) = false := beq_eq_false_iff_ne.mpr he
    go_enter Try.func22, Try.ntmps22
    go_wp2_with (go_at_call 21; refine hU.mono ?_; rintro e w1 ⟨rfl, B1⟩)
    go_ret2
    exact ⟨rfl, B1⟩
end Go.Proofs.Ytgdnljhndjlefaa.QNeedFits
