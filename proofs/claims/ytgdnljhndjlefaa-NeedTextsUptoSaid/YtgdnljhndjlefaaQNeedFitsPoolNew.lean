/- A pool in memory; New, Units, Free. No conditions beyond those that each theorem names. -/
import Derived.Test.YtgdnljhndjlefaaQNeedFitsPoolModel
namespace Go.Proofs.Ytgdnljhndjlefaa.QNeedFits
open Go.RowKit Go.Proofs.Ytgdnljhndjlefaa.PNeedFits Go.Proofs.YtgdnljhndjlefaaW.PrintWords Go.Proofs.YtgdnljhndjlefaaW.PrintLast Go.Proofs.YtgdnljhndjlefaaW.PrintMore Go.Proofs.Ytgdnljhndjlefaa.MMaps
set_option linter.unusedVariables false
set_option linter.unusedSimpArgs false
set_option maxRecDepth 100000
@[go_sem] theorem as_uu (v : Value) (w : World) : (Instr.typeAssert (.iface 72 v) 70 72 true).run Try.prog w = .ok (.tuple #[v, .bool true]) w := by kernel_rfl
@[go_sem] theorem as_ul (v : Value) (w : World) : (Instr.typeAssert (.iface 72 v) 70 74 true).run Try.prog w = .ok (.tuple #[.agg #[], .bool false]) w := by kernel_rfl
@[go_sem] theorem as_lu (v : Value) (w : World) : (Instr.typeAssert (.iface 74 v) 70 72 true).run Try.prog w = .ok (.tuple #[.int .i64 0, .bool false]) w := by kernel_rfl
@[go_sem] theorem as_ll (v : Value) (w : World) : (Instr.typeAssert (.iface 74 v) 70 74 true).run Try.prog w = .ok (.tuple #[v, .bool true]) w := by kernel_rfl
@[go_sem] theorem as_nu (w : World) : (Instr.typeAssert .nilIface 70 72 true).run Try.prog w = .ok (.tuple #[.int .i64 0, .bool false]) w := by kernel_rfl
@[go_sem] theorem as_nl (w : World) : (Instr.typeAssert .nilIface 70 74 true).run Try.prog w = .ok (.tuple #[.agg #[], .bool false]) w := by kernel_rfl
/-- Block p is a pool: its maps lie in bt and bh; its resources are R, and H is held. -/
structure PoolAt (w : World) (p bt bh : Nat) (R : List Rs) (H : List Hd) : Prop where
  cell : w.heap[p]? = some (.cells #[.map (some bt), .map (some bh)] 68 (0, 0))
  things : MapAt KS w bt R.length (fT R)
  held : MapAt KK w bh H.length (fH H)
  ne : bt ≠ bh
  good : Good R H
theorem PoolAt.ltp {w : World} {p bt bh : Nat} {R : List Rs} {H : List Hd} (h : PoolAt w p bt bh R H) : p < w.heap.size := blk_lt h.cell
theorem PoolAt.net {w : World} {p bt bh : Nat} {R : List Rs} {H : List Hd} (h : PoolAt w p bt bh R H) : p ≠ bt := by
  intro e
  obtain ⟨es, c, hm⟩ := h.things.isMap
  have := h.cell
  rw [e, hm] at this
  cases this
theorem PoolAt.neh {w : World} {p bt bh : Nat} {R : List Rs} {H : List Hd} (h : PoolAt w p bt bh R H) : p ≠ bh := by
  intro e
  obtain ⟨es, c, hm⟩ := h.held.isMap
  have := h.cell
  rw [e, hm] at this
  cases this
theorem PoolAt.kept {w w' : World} {p bt bh : Nat} {R : List Rs} {H : List Hd} {row : Option Nat} (h : PoolAt w p bt bh R H) (hg : w.grownBy w' row) (h1 : some p ≠ row) (h2 : some bt ≠ row) (h3 : some bh ≠ row) : PoolAt w' p bt bh R H :=
  ⟨(hg.block p h.ltp h1).trans h.cell, h.things.kept hg h2, h.held.kept hg h3, h.ne, h.good⟩
theorem below_grown {w w' : World} (h : Below w.heap.size w w') (row : Option Nat) : w.grownBy w' row :=
  ⟨h.os, h.tape, h.output, h.size, fun k hk _ => h.block k hk⟩
theorem grown_below {B b : Nat} {w w' : World} (hg : w.grownBy w' (some b)) (h1 : B ≤ b) (h2 : B ≤ w.heap.size) : Below B w w' :=
  ⟨hg.os, hg.tape, hg.output, hg.size, fun k hk => hg.block k (by omega) (by simp; omega)⟩
theorem below_of_grown {w w' : World} (h : w.grownBy w' none) : Below w.heap.size w w' := ⟨h.os, h.tape, h.output, h.size, fun k hk => h.block k hk (by simp)⟩
theorem below_go {B : Nat} {W w1 w2 : World} (h : Below B W w1) (hB : B ≤ w1.heap.size) (h2 : Below w1.heap.size w1 w2) : Below B W w2 := h.trans (h2.mono hB)
theorem PoolAt.below {w w' : World} {p bt bh : Nat} {R : List Rs} {H : List Hd} (h : PoolAt w p bt bh R H) (hb : Below w.heap.size w w') : PoolAt w' p bt bh R H :=
  h.kept (below_grown hb none) (by simp) (by simp) (by simp)
/-- What a lookup of a name's thing gives. -/
theorem PoolAt.thing {w : World} {p bt bh : Nat} {R : List Rs} {H : List Hd} (h : PoolAt w p bt bh R H) (s : ByteArray) (hs : s.size ≤ maxLen) : (Instr.lookup 65 (.map (some bt)) (.string s) false).run Try.prog w = .ok ((fT R s).getD .nilIface) w :=
  h.things.look Try.underlying65 (z := .nilIface) (by rfl) s hs
theorem PoolAt.thingOk {w : World} {p bt bh : Nat} {R : List Rs} {H : List Hd} (h : PoolAt w p bt bh R H) (s : ByteArray) (hs : s.size ≤ maxLen) : (Instr.lookup 65 (.map (some bt)) (.string s) true).run Try.prog w = .ok (.tuple #[(fT R s).getD .nilIface, .bool (fT R s).isSome]) w :=
  h.things.lookOk Try.underlying65 (z := .nilIface) (by rfl) s hs
set_option maxHeartbeats 8000000 in
theorem Units.calls_nil (s : ByteArray) (w : World) : Calls Try.prog 21 #[.pointer none, .string s] w fun e w' => e = .returned (.tuple #[.int .i64 0, .int .i64 2]) ∧ Drawn0 w w' := by
  go_enter Try.func21, Try.ntmps21
  go_wp2
  go_ret2
  exact ⟨rfl, Drawn0.refl _⟩
set_option maxHeartbeats 8000000 in
theorem Units.calls (p bt bh : Nat) (R : List Rs) (H : List Hd) (s : ByteArray) (hs : s.size ≤ maxLen) (w : World) (h : PoolAt w p bt bh R H) : Calls Try.prog 21 #[.pointer (some ⟨p, 0, none⟩), .string s] w fun e w' => e = .returned (.tuple #[.int .i64 (unitsOf R s).1, .int .i64 (unitsOf R s).2]) ∧ Below w.heap.size w w' := by
  have h0 : w.cell? ⟨p, 0, none⟩ = some (.map (some bt)) := blk_cell h.cell 0
  have hl := h.thing s hs
  obtain ⟨a, ha⟩ : ∃ a, unitsOf R s = a := ⟨_, rfl⟩
  rw [ha]
  clear h
  unfold fT at hl
  unfold unitsOf at ha
  cases hf : findR R s with
  | none =>
    rw [hf] at hl ha
    subst ha
    simp only [Option.map_none, Option.getD_none] at hl
    go_enter Try.func21, Try.ntmps21
    go_wp2
    go_ret2
    exact ⟨rfl, Below.refl _ _⟩
  | some r =>
    rw [hf] at hl ha
    subst ha
    simp only [Option.map_some, Option.getD_some, tv] at hl
    clear hf
    obtain ⟨r0, r1, r2⟩ := r
    cases r2 with
    | true =>
      replace hl := hl
      simp only [if_true] at hl
      go_enter Try.func21, Try.ntmps21
      go_wp2
      go_ret2
      exact ⟨rfl, by first | exact below_alloc (Below.refl _ _) _ | exact Below.refl _ _⟩
    | false =>
      simp only [Bool.false_eq_true, if_false] at hl
      go_enter Try.func21, Try.ntmps21
      go_wp2
      go_ret2
      exact ⟨rfl, by first | exact below_alloc (Below.refl _ _) _ | exact Below.refl _ _⟩
set_option maxHeartbeats 8000000 in
theorem Free.calls_nil (s : ByteArray) (w : World) : Calls Try.prog 22 #[.pointer none, .string s] w fun e w' => e = .returned (.tuple #[.int .i64 0, .int .i64 2]) ∧ Drawn0 w w' := by
  go_enter Try.func22, Try.ntmps22
  go_wp2_with (go_at_call 21; refine (Units.calls_nil s _).mono ?_; rintro e w1 ⟨rfl, d1⟩)
  go_ret2
  exact ⟨rfl, d1⟩
/-- What a range brings of what is held. -/
theorem came_hd {w w' : World} {b r n : Nat} {D : DataW Value} {H : List Hd} {left : Lit → Bool} {cnt cnt' : Nat} {x : Key} {v : Value} (h : Came KK w w' b r n D (fH H) left cnt x v cnt') : ∃ y ∈ H, kf y = x ∧ v = nv y := fH_mem h.mem
set_option maxHeartbeats 8000000 in
theorem Free.calls (p bt bh : Nat) (R : List Rs) (H : List Hd) (s : ByteArray) (hs : s.size ≤ maxLen) (w : World) (h : PoolAt w p bt bh R H) : Calls Try.prog 22 #[.pointer (some ⟨p, 0, none⟩), .string s] w fun e w' => e = .returned (.tuple #[.int .i64 (freeOf R H s).1, .int .i64 (freeOf R H s).2]) ∧ Below w.heap.size w w' := by
  have hU := Units.calls p bt bh R H s hs w h
  have HP := Aside0.mk h
  have hub : -1000 ≤ (unitsOf R s).1 ∧ (unitsOf R s).1 ≤ 1000 := by
    unfold unitsOf
    cases hf : findR R s with
    | none => simp
    | some r =>
      have := h.good.rwf r (List.mem_of_find?_eq_some hf)
      dsimp only
      split
      · simp
      · dsimp only; omega
  clear h
  unfold freeOf
  generalize (unitsOf R s).1 = u at *
  generalize (unitsOf R s).2 = ee at *
  by_cases he : ee = 0
  · subst he
    rw [if_pos rfl]
    obtain ⟨a, ha⟩ : ∃ a, u - sumBy (ofName s) H = a := ⟨_, rfl⟩
    rw [ha]
    have HA := Aside0.mk ha
    clear ha
    go_enter Try.func22, Try.ntmps22
    go_upto_region 4 with (go_at_call 21; refine hU.mono ?_; rintro e w1 ⟨rfl, B1⟩)
    have hP1 := HP.out.below B1
    have c1 : w1.cell? ⟨p, 1, none⟩ = some (.map (some bh)) := blk_cell hP1.cell 1
    obtain ⟨D0, hown, hsays, hsz⟩ := hP1.held.own
    have HG := Aside0.mk hP1.good
    have HB1 := Aside0.mk B1
    clear hP1 B1 hU HP
    have HSY := Aside0.mk hsays
    clear hsays
    go_wp2_with (first
      | (at_range; refine wpList_range_own _ rfl _ 66 rfl 79 52 KK.law Try.underlying66 RV bh H.length D0 rfl hown ?_; intro w0 hrg0 hg0 hs0)
      | go_in)
    go_frame
    go_loopg [6] H.length (fun gg v6 wr => ∃ (left : Lit → Bool) (cnt : Nat), v6 = .int .i64 (u - sumBy (met (ofName s) left) H) ∧ Aside0 (wr.ranges Try.prog 79 RV bh w1.heap.size H.length D0 left cnt) ∧ Aside0 (Below w.heap.size w wr) ∧ Aside0 (cnt ≤ gg))
    case atStart =>
      refine ⟨_, _, ?_, ⟨hrg0⟩, ⟨HB1.out.trans ((below_of_grown hg0).mono HB1.out.size)⟩, ⟨?_⟩⟩
      · rw [met_start (ofName s) (fun h hh => by rw [HSY.out.has_ _ (HG.out.hwf h hh).1, fH_own HG.out.sorted.apart hh]; rfl)]
        rw [Int.sub_zero]
      · rw [hsz]; exact Nat.le_refl _
    case round =>
      obtain ⟨left, cnt, rfl, HR, HB, HC⟩ := hrel
      have hrg := HR.out
      clear hown
      have hsays := HSY.out
      go_wp2_with (first
        | (at_next; refine next_key KK rfl _ rfl bh w1.heap.size H.length D0 (fH H) hsays left cnt rfl hrg ?_ ?_)
        | go_in)
      · intro _ hl0
        go_wp2
        go_ret2
        refine ⟨?_, HB.out⟩
        rw [met_end (ofName s) hl0 H, HA.out]
        rfl
      · intro x v w2 cnt2 hcame hen
        obtain ⟨y, hy, rfl, rfl⟩ := fH_mem hcame.mem
        have ekv : KK.kv (kf y) = .agg #[.int .i64 y.f0, .string y.f1] := rfl
        rw [ekv] at hen ⊢
        have hst := met_step (ofName s) HG.out.sorted.apart (fun h hh => (HG.out.hwf h hh).1) hy hcame.left_
        have hbd : ∀ h ∈ H, 0 ≤ ofName s h ∧ ofName s h ≤ 1000 := fun h hh => by
          have := HG.out.hwf h hh
          unfold ofName
          split <;> omega
        have hb1 := met_le (left := left) hbd
        have hb2 := hbd y hy
        have hyb := HG.out.hwf y hy
        have hln := HG.out.hlen
        have HCM := Aside0.mk hcame
        clear hcame hsays hrg HR hbd ekv
        unfold nv at hen
        unfold nv
        generalize hS : sumBy (met (ofName s) left) H = S at *
        have HST := Aside0.mk hst
        clear hst hS
        cases hq : eqS y.f1 s with
        | true =>
          have eo : ofName s y = y.f2 := by unfold ofName; rw [hq, if_pos rfl]
          have t1 : (y.f1.toList == s.toList) = true := hq
          rw [eo] at hb2
          go_wp2
          go_roundg cnt2
          case measure => have := HC.out; have := HCM.out.lt; omega
          case rel =>
            refine ⟨_, cnt2, ?_, ⟨HCM.out.ranges.alloc _ |>.alloc _⟩, ⟨?_⟩, ⟨Nat.le_refl _⟩⟩
            · rw [HST.out, eo]; go_num
            · exact below_alloc (below_alloc (HB.out.grown HCM.out.grown HB.out.size (fun k e => by cases e; exact HB1.out.size)) _) _
        | false =>
          have eo : ofName s y = 0 := by unfold ofName; rw [hq, if_neg (by simp)]
          have t1 : (y.f1.toList == s.toList) = false := hq
          go_wp2
          go_roundg cnt2
          case measure => have := HC.out; have := HCM.out.lt; omega
          case rel =>
            refine ⟨_, cnt2, ?_, ⟨HCM.out.ranges.alloc _ |>.alloc _⟩, ⟨?_⟩, ⟨Nat.le_refl _⟩⟩
            · rw [HST.out, eo]; go_num
            · exact below_alloc (below_alloc (HB.out.grown HCM.out.grown HB.out.size (fun k e => by cases e; exact HB1.out.size)) _) _
  · rw [if_neg he]
    have n0 : (ee == 0) = false := beq_eq_false_iff_ne.mpr he
    go_enter Try.func22, Try.ntmps22
    go_wp2_with (go_at_call 21; refine hU.mono ?_; rintro e w1 ⟨rfl, B1⟩)
    go_ret2
    exact ⟨rfl, B1⟩
end Go.Proofs.Ytgdnljhndjlefaa.QNeedFits

/- A new pool. No conditions beyond those that each theorem names. -/
namespace Go.Proofs.Ytgdnljhndjlefaa.QNeedFits
open Go.RowKit Go.Proofs.Ytgdnljhndjlefaa.PNeedFits Go.Proofs.YtgdnljhndjlefaaW.PrintWords Go.Proofs.YtgdnljhndjlefaaW.PrintLast Go.Proofs.YtgdnljhndjlefaaW.PrintMore Go.Proofs.Ytgdnljhndjlefaa.MMaps
set_option linter.unusedVariables false
set_option linter.unusedSimpArgs false
set_option maxRecDepth 100000
/-- A resource, as the program has it. -/
abbrev Rj := S64
def clampI (a : Int) : Int := if 1000 < (if a < 0 then 0 else a) then 1000 else if a < 0 then 0 else a
theorem clampI_range (a : Int) : 0 ≤ clampI a ∧ clampI a ≤ 1000 := by unfold clampI; split <;> split <;> omega
def asR (r : Rj) : Rs := ⟨r.f0, if r.f2 then 0 else clampI r.f1, r.f2⟩
def addRs (R : List Rs) (r : Rj) : List Rs := if (findR R r.f0).isSome then R else R ++ [asR r]
def newR (l : List Rj) : List Rs := l.foldl addRs []
theorem newR_take (l : List Rj) (i : Nat) (h : i < l.length) : newR (l.take (i + 1)) = addRs (newR (l.take i)) l[i] := by
  unfold newR
  rw [List.take_succ_eq_append_getElem h, List.foldl_append]; rfl
theorem findR_snoc (R : List Rs) (r : Rs) (s : ByteArray) : findR (R ++ [r]) s = (findR R s).or (if eqS r.f0 s then some r else none) := by
  unfold findR
  rw [List.find?_append]
  congr 1
  simp [List.find?_cons]
  cases eqS r.f0 s <;> rfl
theorem findR_none {R : List Rs} {s : ByteArray} (h : findR R s = none) : ∀ r ∈ R, r.f0 ≠ s := fun r hr e => by
  have := (List.find?_eq_none.mp h) r hr
  exact this (eqS_iff.mpr e)
theorem asR_range (r : Rj) : 0 ≤ (asR r).f1 ∧ (asR r).f1 ≤ 1000 := by
  unfold asR
  dsimp only
  split
  · omega
  · exact clampI_range _
theorem Good.add {R : List Rs} {H : List Hd} (h : Good R H) (r : Rj) (hr : r.f0.size ≤ maxLen) (hn : findR R r.f0 = none) (hl : R.length < 100000) : Good (R ++ [asR r]) H :=
  ⟨by simp; omega, fun x hx => by
    rcases List.mem_append.mp hx with e | e
    · exact h.rwf x e
    · rw [List.mem_singleton] at e; subst e; exact ⟨hr, asR_range r⟩,
   List.pairwise_append.mpr ⟨h.rap, List.pairwise_singleton _ _, fun a ha b hb => by rw [List.mem_singleton] at hb; subst hb; exact findR_none hn a ha⟩, h.sorted, h.hwf, h.hlen⟩
theorem fT_snoc {R : List Rs} {r : Rs} (hn : findR R r.f0 = none) : fT (R ++ [r]) r.f0 = some (tv r) ∧ ∀ d, d ≠ r.f0 → fT (R ++ [r]) d = fT R d := by
  refine ⟨?_, fun d hd => ?_⟩
  · unfold fT
    rw [findR_snoc, hn, eqS_self]; rfl
  · unfold fT
    rw [findR_snoc, eqS_false.mpr (Ne.symm hd)]
    simp
theorem addRs_length (R : List Rs) (r : Rj) : (addRs R r).length ≤ R.length + 1 := by unfold addRs; split <;> simp
theorem newR_length (l : List Rj) : ∀ i, i ≤ l.length → (newR (l.take i)).length ≤ i
  | 0, _ => by simp [newR]
  | i + 1, h => by
    rw [newR_take l i (by omega)]
    have := newR_length l i (by omega)
    have := addRs_length (newR (l.take i)) l[i]
    omega
theorem rdj_at (L : List Rj) (i : Nat) (h : i < L.length) : rd_T64 L (i : Int) = L[i] := by
  unfold rd_T64
  rw [Int.toNat_natCast]
  simp [List.getD, List.getElem?_eq_getElem h]
theorem PoolAt.things_to {w w' : World} {p bt bh : Nat} {R M : List Rs} {H : List Hd} (h : PoolAt w p bt bh R H) (hg : w.grownBy w' (some bt)) {n : Nat} (hm : MapAt KS w' bt n (fT M)) (hn : n = M.length) (hd : Good M H) : PoolAt w' p bt bh M H :=
  ⟨(hg.block p h.ltp (by simpa using h.net)).trans h.cell, hn ▸ hm, h.held.kept hg (by simpa using h.ne.symm), h.ne, hd⟩
set_option maxHeartbeats 8000000 in
theorem New.calls (A0 : Option Addr) (c0 : Nat) (l : List Rj) (w : World) (hC : Kd.C k64 w A0 l.length l) (hc : l.length ≤ c0) (hw : ∀ r ∈ l, r.f0.size ≤ maxLen ∧ (Lit.int .i64 r.f1).wf = true) (hl : l.length ≤ 100000) :
    Calls Try.prog 9 #[.slice A0 l.length c0] w fun e w' => ∃ p bt bh, e = .returned (.pointer (some ⟨p, 0, none⟩)) ∧ w.heap.size ≤ p ∧ w.heap.size ≤ bt ∧ w.heap.size ≤ bh ∧ PoolAt w' p bt bh (newR l) [] ∧ Below w.heap.size w w' := by
  have hmm := @run_makeMap Try.prog
  have HC := Aside0.mk hC
  clear hC
  go_enter Try.func9, Try.ntmps9
  go_wp2
  obtain ⟨W, hW⟩ : ∃ W, W = ((w.alloc (.map #[] 0)).alloc (.map #[] 0)).alloc (.cells #[.map (some w.heap.size), .map (some (w.heap.size + 1))] 68 (0, 0)) := ⟨_, rfl⟩
  have s1 : (w.alloc (.map #[] 0)).heap.size = w.heap.size + 1 := by simp
  have s2 : ((w.alloc (.map #[] 0)).alloc (.map #[] 0)).heap.size = w.heap.size + 1 + 1 := by simp
  have hk := blk_new ((w.alloc (.map #[] 0)).alloc (.map #[] 0)) (.cells #[.map (some w.heap.size), .map (some (w.heap.size + 1))] 68 (0, 0))
  rw [← hW, s2] at hk
  have hP : PoolAt W (w.heap.size + 1 + 1) w.heap.size (w.heap.size + 1) [] [] := by
    refine ⟨hk, ?_, ?_, by omega, ⟨by simp, (fun r h => by cases h), List.Pairwise.nil, List.Pairwise.nil, (fun r h => by cases h), by simp⟩⟩
    · rw [hW]
      exact (MapAt.made KS w).below (below_alloc (below_alloc (Below.refl _ _) _) _)
    · rw [hW]
      have h9 := (MapAt.made KK (w.alloc (.map #[] 0))).below (below_alloc (Below.refl _ _) (.cells #[.map (some w.heap.size), .map (some (w.heap.size + 1))] 68 (0, 0)))
      rw [s1] at h9
      exact h9
  have hB : Below w.heap.size w W := by rw [hW]; exact below_alloc (below_alloc (below_alloc (Below.refl _ _) _) _) _
  have hs1 : w.heap.size ≤ w.heap.size + 1 := by omega
  have hs2 : w.heap.size ≤ w.heap.size + 1 + 1 := by omega
  have HP := Aside0.mk hP
  have HB := Aside0.mk hB
  clear hk hP hB s1 s2
  rw [← hW]
  clear hW
  generalize w.heap.size + 1 + 1 = p at *
  generalize w.heap.size + 1 = bh at *
  go_loopg [14] l.length (fun gg v14 wr => ∃ i : Nat, i ≤ l.length ∧ l.length - i ≤ gg ∧ v14 = .int .i64 i ∧ Aside0 (PoolAt wr p w.heap.size bh (newR (l.take i)) []) ∧ Aside0 (Below w.heap.size w wr))
  case atStart => exact ⟨0, Nat.zero_le _, by omega, rfl, HP, HB⟩
  case round =>
    clear HP HB
    obtain ⟨i, hi, hg, rfl, HP, HB⟩ := hrel
    by_cases hlt : i < l.length
    · have b2 : decide ((i : Int) < (l.length : Int)) = true := decide_eq_true (by omega)
      have b3 : (i : Int) < (l.length : Int) := by omega
      have hz : (0 : Int) ≤ (i : Int) := by omega
      obtain ⟨ad, e, x0, x1, x2⟩ := at_T64 HC.out (i : Int) hz b3
      cases e
      have hbk := World.block_lt_of_cell? w _ x0
      rw [rdj_at l i hlt, Int.toNat_natCast] at x0 x1 x2
      rw [Int.toNat_natCast] at hbk
      have hwx := hw _ (List.getElem_mem hlt)
      have HT := Aside0.mk (newR_take l i hlt)
      have hRl := newR_length l i hi
      obtain ⟨x, hx⟩ : ∃ x, l[i] = x := ⟨_, rfl⟩
      rw [hx] at x0 x1 x2 hwx HT
      clear hx
      replace x0 := (HB.out.cell hbk).trans x0
      replace x1 := (HB.out.cell (p := ⟨(ad.add (i * 3)).block, (ad.add (i * 3)).off + 1, none⟩) hbk).trans x1
      replace x2 := (HB.out.cell (p := ⟨(ad.add (i * 3)).block, (ad.add (i * 3)).off + 2, none⟩) hbk).trans x2
      generalize newR (l.take i) = R at *
      go_upto_region 5 with (fail)
      obtain ⟨V, hV⟩ : ∃ V, V = wr.alloc (.cells #[.string x.f0, .int .i64 x.f1, .bool x.f2] 64 (0, 0)) := ⟨_, rfl⟩
      have hbV : Below wr.heap.size wr V := by rw [hV]; exact below_alloc (Below.refl _ _) _
      have kb : V.heap[wr.heap.size]? = some (.cells #[.string x.f0, .int .i64 x.f1, .bool x.f2] 64 (0, 0)) := by rw [hV]; exact blk_new _ _
      rw [← hV]
      clear hV x0 x1 x2
      have hPV := HP.out.below hbV
      have HBV := Aside0.mk (below_go HB.out HB.out.size hbV)
      have y0 : V.cell? ⟨wr.heap.size, 0, none⟩ = some (.string x.f0) := blk_cell kb 0
      have y1 : V.cell? ⟨wr.heap.size, 1, none⟩ = some (.int .i64 x.f1) := blk_cell kb 1
      have y2 : V.cell? ⟨wr.heap.size, 2, none⟩ = some (.bool x.f2) := blk_cell kb 2
      have y3 : V.cell? ⟨p, 0, none⟩ = some (.map (some w.heap.size)) := blk_cell hPV.cell 0
      have hlk : ∀ n, (Instr.lookup 65 (.map (some w.heap.size)) (.string x.f0) true).run Try.prog (V.drewN n) = .ok (.tuple #[(fT R x.f0).getD .nilIface, .bool (fT R x.f0).isSome]) (V.drewN n) := fun n => (hPV.below (Drawn0.mk ⟨n, rfl⟩).below).thingOk x.f0 hwx.1
      have HPV := Aside0.mk hPV
      have HKB := Aside0.mk kb
      clear hPV kb hbV
      cases hf : findR R x.f0 with
      | some r =>
        have e1 : fT R x.f0 = some (tv r) := by unfold fT; rw [hf]; rfl
        have e2 : addRs R x = R := by unfold addRs; rw [hf]; rfl
        rw [e1] at hlk
        simp only [Option.getD_some, Option.isSome_some] at hlk
        generalize tv r = tr at *
        clear e1
        go_quiet (fail)
        go_wp2
        go_roundg (l.length - (i + 1))
        case measure => omega
        case rel => exact ⟨i + 1, by omega, Nat.le_refl _, by go_num, ⟨by rw [HT.out, e2]; exact HPV.out.below (Drawn0.mk ⟨nq, rfl⟩).below⟩, ⟨below_go HBV.out HBV.out.size (Drawn0.mk ⟨nq, rfl⟩).below⟩⟩
      | none =>
        have e1 : fT R x.f0 = none := by unfold fT; rw [hf]; rfl
        have e2 : addRs R x = R ++ [asR x] := by unfold addRs; rw [hf]; rfl
        rw [e1] at hlk
        simp only [Option.getD_none, Option.isSome_none] at hlk
        have HE := Aside0.mk e2
        have HF := Aside0.mk hf
        clear e1 e2
        go_quiet (fail)
        obtain ⟨U, hU⟩ : ∃ U, U = V.drewN nq := ⟨_, rfl⟩
        have hd : Below V.heap.size V U := by rw [hU]; exact (Drawn0.mk ⟨nq, rfl⟩).below
        rw [← hU]
        clear hU hlk y0 y1 y2 y3
        have hPU := HPV.out.below hd
        have kbU := blk_below HKB.out hd
        have HBU := Aside0.mk (below_go HBV.out HBV.out.size hd)
        have hM := (hPU.things).below (Drawn0.mk (w := U) (w' := U.drew) ⟨1, rfl⟩).below
        have hsn := fT_snoc (r := ⟨x.f0, clampI x.f1, false⟩) HF.out
        have HSN := Aside0.mk (fT_snoc (r := asR x) HF.out)
        have hlm : R.length < maxLen := by unfold maxLen; omega
        have hlm2 : R.length + 1 < maxLen := by unfold maxLen; omega
        have hq : R.length < 100000 := by omega
        have hne : w.heap.size < wr.heap.size := HP.out.things.lt
        have HM1 := Aside0.mk (show (fT R x.f0) = none by unfold fT; rw [HF.out]; rfl)
        have HG := Aside0.mk (hPU.good.add x hwx.1 HF.out hq)
        have y0 : U.cell? ⟨wr.heap.size, 0, none⟩ = some (.string x.f0) := blk_cell kbU 0
        have y1 : U.cell? ⟨wr.heap.size, 1, none⟩ = some (.int .i64 x.f1) := blk_cell kbU 1
        have y3 : U.cell? ⟨p, 0, none⟩ = some (.map (some w.heap.size)) := blk_cell hPU.cell 0
        have HPU := Aside0.mk hPU
        clear hPU hd
        cases hb2 : x.f2 with
        | false =>
          rw [hb2] at kbU
          have eA : asR x = ⟨x.f0, clampI x.f1, false⟩ := by unfold asR; rw [hb2]; rfl
          have y2 : U.cell? ⟨wr.heap.size, 2, none⟩ = some (.bool false) := blk_cell kbU 2
          have HKU := Aside0.mk kbU
          clear kbU
          go_upto_region 7 with (fail)
          go_still_tail 11, (by kernel_rfl)
          change wpList _ _ _ _ _ U.drew
          generalize hcm : (if x.f1 < 0 then 0 else x.f1) = cm
          generalize hcl : (if 1000 < cm then 1000 else cm) = cl
          have ecl : clampI x.f1 = cl := by unfold clampI; rw [hcm, hcl]
          clear hcm hcl
          rw [ecl] at hsn
          have HCL := Aside0.mk ecl
          clear ecl
          go_wp2_with (at_mapUpdate; refine wpList_store KS rfl _ _ _ 65 rfl 70 Try.underlying65 w.heap.size R.length hM hlm rfl x.f0 hwx.1 _ rfl rfl (fT (R ++ [⟨x.f0, cl, false⟩])) hsn.1 hsn.2 ?_; intro w9 hm9 hg9; rw [HM1.out] at hm9; have z2 : w9.cell? ⟨wr.heap.size, 2, none⟩ = some (.bool false) := blk_cell ((hg9.block wr.heap.size (blk_lt HKU.out) (by simp; omega)).trans HKU.out) 2; have HM9 := Aside0.mk hm9; have HG9 := Aside0.mk (show U.grownBy w9 (some w.heap.size) from ⟨hg9.os, hg9.tape, hg9.output, hg9.size, hg9.block⟩); clear hM hsn y0 y1 y2 y3 hm9 hg9)
          go_roundg (l.length - (i + 1))
          case measure => omega
          case rel =>
            rw [← HCL.out, ← eA] at HM9
            exact ⟨i + 1, by omega, Nat.le_refl _, by go_num, ⟨by rw [HT.out, HE.out]; exact HPU.out.things_to HG9.out HM9.out (by simp) HG.out⟩, ⟨HBU.out.trans (grown_below HG9.out (Nat.le_refl _) HBU.out.size)⟩⟩
        | true =>
          rw [hb2] at kbU
          have eA : tv (asR x) = .iface 74 (.agg #[]) := by unfold asR tv; rw [hb2]; rfl
          have y2 : U.cell? ⟨wr.heap.size, 2, none⟩ = some (.bool true) := blk_cell kbU 2
          have HKU := Aside0.mk kbU
          clear kbU
          go_upto_region 7 with (fail)
          go_still_tail 11, (by kernel_rfl)
          change wpList _ _ _ _ _ U.drew
          generalize hcm : (if x.f1 < 0 then 0 else x.f1) = cm
          generalize hcl : (if 1000 < cm then 1000 else cm) = cl
          have ecl : clampI x.f1 = cl := by unfold clampI; rw [hcm, hcl]
          clear hcm hcl
          rw [ecl] at hsn
          have HCL := Aside0.mk ecl
          clear ecl
          have HSS := Aside0.mk hsn
          go_wp2_with (at_mapUpdate; refine wpList_store KS rfl _ _ _ 65 rfl 70 Try.underlying65 w.heap.size R.length hM hlm rfl x.f0 hwx.1 _ rfl rfl (fT (R ++ [⟨x.f0, cl, false⟩])) hsn.1 hsn.2 ?_; intro w9 hm9 hg9; rw [HM1.out] at hm9; have kb9 := (hg9.block wr.heap.size (blk_lt HKU.out) (by simp; omega)).trans HKU.out; have z2 : w9.cell? ⟨wr.heap.size, 2, none⟩ = some (.bool true) := blk_cell kb9 2; have HK9 := Aside0.mk kb9; have HM9 := Aside0.mk hm9; have HG9 := Aside0.mk (show U.grownBy w9 (some w.heap.size) from ⟨hg9.os, hg9.tape, hg9.output, hg9.size, hg9.block⟩); clear hM hsn y0 y1 y2 y3 hm9 hg9 kb9; go_frame)
          have hP9 : PoolAt w9 p w.heap.size bh (R ++ [⟨x.f0, cl, false⟩]) [] := HPU.out.things_to HG9.out HM9.out (by simp) (by
            have hg := HG.out
            have hcr := clampI_range x.f1
            rw [HCL.out] at hcr
            refine ⟨by have := hg.rlen; simpa using this, fun z hz => ?_, ?_, hg.sorted, hg.hwf, hg.hlen⟩
            · rcases List.mem_append.mp hz with e | e
              · exact hg.rwf z (List.mem_append.mpr (.inl e))
              · rw [List.mem_singleton] at e; subst e; exact ⟨hwx.1, hcr⟩
            · exact List.pairwise_append.mpr ⟨HPU.out.good.rap, List.pairwise_singleton _ _, fun a ha b hb => by rw [List.mem_singleton] at hb; subst hb; exact findR_none HF.out a ha⟩)
          have z0 : w9.cell? ⟨wr.heap.size, 0, none⟩ = some (.string x.f0) := blk_cell HK9.out 0
          have z3 : w9.cell? ⟨p, 0, none⟩ = some (.map (some w.heap.size)) := blk_cell hP9.cell 0
          have hM9 := (hP9.things).below (Drawn0.mk (w := w9) (w' := w9.drew) ⟨1, rfl⟩).below
          rw [show (R ++ [(⟨x.f0, cl, false⟩ : Rs)]).length = R.length + 1 from by simp] at hM9
          have es : fT (R ++ [⟨x.f0, cl, false⟩]) x.f0 = some (tv ⟨x.f0, cl, false⟩) := (fT_snoc (r := ⟨x.f0, cl, false⟩) HF.out).1
          have ESS := Aside0.mk es
          have hs3 : fT (R ++ [asR x]) x.f0 = some (.iface 74 (.agg #[])) := eA ▸ HSN.out.1
          have hs4 : ∀ d, d ≠ x.f0 → fT (R ++ [asR x]) d = fT (R ++ [⟨x.f0, cl, false⟩]) d := fun d hd => (HSN.out.2 d hd).trans ((fT_snoc (r := ⟨x.f0, cl, false⟩) HF.out).2 d hd).symm
          have HP9 := Aside0.mk hP9
          clear hP9 es
          go_still_tail 8, (by kernel_rfl)
          change wpList _ _ _ _ _ w9.drew
          go_wp2_with (at_mapUpdate; refine wpList_store KS rfl _ _ _ 65 rfl 70 Try.underlying65 w.heap.size (R.length + 1) hM9 hlm2 rfl x.f0 hwx.1 _ rfl rfl (fT (R ++ [asR x])) hs3 hs4 ?_; intro w10 hm10 hg10; rw [ESS.out] at hm10; have HM10 := Aside0.mk hm10; have HG10 := Aside0.mk (show w9.grownBy w10 (some w.heap.size) from ⟨hg10.os, hg10.tape, hg10.output, hg10.size, hg10.block⟩); clear hM9 hs3 hs4 hm10 hg10; go_frame)
          go_roundg (l.length - (i + 1))
          case measure => omega
          case rel =>
            exact ⟨i + 1, by omega, Nat.le_refl _, by go_num, ⟨by rw [HT.out, HE.out]; exact HP9.out.things_to HG10.out HM10.out (by simp) HG.out⟩, ⟨(HBU.out.trans (grown_below HG9.out (Nat.le_refl _) HBU.out.size)).trans (grown_below HG10.out (Nat.le_refl _) (Nat.le_trans HBU.out.size HG9.out.size))⟩⟩
    · have b2 : decide ((i : Int) < (l.length : Int)) = false := decide_eq_false (by omega)
      have e : l.take i = l := List.take_of_length_le (by omega)
      have hP := HP.out
      rw [e] at hP
      go_wp2
      go_ret
      exact ⟨p, w.heap.size, bh, rfl, hs2, Nat.le_refl _, hs1, hP, HB.out⟩
end Go.Proofs.Ytgdnljhndjlefaa.QNeedFits
