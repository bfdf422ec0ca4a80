/- A store of conditions: whether one of a name is there; and what a store answers that is not there. No conditions beyond those that each theorem names. -/
import Derived.Test.YthneeibphelofaaQCondPlaysCondList
namespace Go.Proofs.Ythneeibphelofaa.QCondPlays
open Go.RowKit Go.Proofs.Ythneeibphelofaa.PCondPlays Go.Proofs.YthneeibphelofaaW.PrintWords Go.Proofs.YthneeibphelofaaW.PrintLast Go.Proofs.YthneeibphelofaaW.PrintMore
set_option linter.unusedVariables false
set_option linter.unusedSimpArgs false
set_option maxHeartbeats 4000000 in
set_option maxRecDepth 100000 in
theorem index_any (p : C → Bool) (g : Nat) (lb : Array Value) (eg : ∀ args w, (callFunc g args).run Try.prog w = .ok (.enter g args) w) (A0 : Option Addr) (c0 : Nat) (l0 : List C) (w : World) (hr0 : Kd.C k29 w A0 l0.length l0) (hlen : l0.length ≤ 9223372036854775806)
    (hp : ∀ (W : World) (x : C), x ∈ l0 → Below w.heap.size w W → Calls Try.prog g (#[.agg #[.string x.f0, .int .i64 x.f1]] ++ lb) W fun e w' => e = .returned (.bool (p x)) ∧ Below W.heap.size W w') :
    Calls Try.prog 46 #[.slice A0 l0.length c0, .func (.func g) #[] lb] w fun e w' => (∃ r, e = .returned (.int .i64 r) ∧ decide (0 ≤ r) = l0.any p) ∧ Below w.heap.size w w' := by
  have HR0 := Aside0.mk hr0
  clear hr0
  go_enter Try.func46, Try.ntmps46
  go_wp2
  go_loopg [5, 8] l0.length (fun gg _ s8 wr => ∃ kk : Nat, kk ≤ l0.length ∧ l0.length - kk ≤ gg ∧ s8 = .int .i64 kk ∧ Aside0 (Below w.heap.size w wr) ∧ Aside0 (∀ (j : Nat) (h : j < l0.length), j < kk → p l0[j] = false))
  case atStart => exact ⟨0, Nat.zero_le _, by omega, rfl, ⟨Below.refl _ w⟩, ⟨fun j _ hj => absurd hj (Nat.not_lt_zero _)⟩⟩
  case round =>
    obtain ⟨kk, hkk, hg, rfl, BW, A⟩ := hrel
    by_cases hlt : kk < l0.length
    · have hltz : (kk : Int) < (l0.length : Int) := by omega
      obtain ⟨ad, e, x0, x1⟩ := at_T29 HR0.out (kk : Int) (by omega) hltz
      cases e
      have hblk := World.block_lt_of_cell? w _ x0
      unfold rd_T29 at x0 x1
      rw [Int.toNat_natCast] at x0 x1 hblk
      have e0 : l0.getD kk z29 = l0[kk] := by rw [List.getD_eq_getElem?_getD, List.getElem?_eq_getElem hlt]; rfl
      rw [e0] at x0 x1
      replace x0 := (BW.out.cell hblk).trans x0
      replace x1 := (BW.out.cell (p := ⟨(ad.add (kk * 2)).block, (ad.add (kk * 2)).off + 1, none⟩) hblk).trans x1
      have hmem : l0[kk] ∈ l0 := List.getElem_mem _
      have hcall := hp wr l0[kk] hmem BW.out
      clear e0 hp
      obtain ⟨y, hy⟩ : ∃ y, l0[kk] = y := ⟨_, rfl⟩
      rw [hy] at x0 x1 hcall hmem
      have B : Aside0 (l0[kk] = y) := ⟨hy⟩
      have HM := Aside0.mk hmem
      clear hy hmem
      cases hq : p y with
      | true =>
        rw [hq] at hcall
        go_wp2_with (go_at_fn g; refine hcall.mono ?_; rintro e w' ⟨rfl, hb0⟩; have hb' := BW.out.trans (hb0.mono BW.out.size); clear hb0)
        go_ret
        refine ⟨⟨_, rfl, ?_⟩, hb'⟩
        rw [decide_eq_true (by omega), eq_comm, List.any_eq_true]
        exact ⟨y, HM.out, hq⟩
      | false =>
        rw [hq] at hcall
        go_wp2_with (go_at_fn g; refine hcall.mono ?_; rintro e w' ⟨rfl, hb0⟩; have hb' := BW.out.trans (hb0.mono BW.out.size); clear hb0)
        go_roundg (l0.length - (kk + 1))
        case measure => omega
        case rel =>
          refine ⟨kk + 1, by omega, by omega, by go_num, ⟨hb'⟩, ⟨fun j h hj => ?_⟩⟩
          by_cases e : j = kk
          · subst e
            rw [B.out]; exact hq
          · exact A.out j h (by omega)
    · have hltz : ¬ (kk : Int) < (l0.length : Int) := by omega
      go_wp2
      go_ret
      refine ⟨⟨_, rfl, ?_⟩, BW.out⟩
      rw [show decide ((0 : Int) ≤ -1) = false from rfl, eq_comm, List.any_eq_false]
      intro x hx
      obtain ⟨j, hj, rfl⟩ := List.getElem_of_mem hx
      have := A.out j hj (by omega)
      simp [this]
set_option maxHeartbeats 4000000 in
set_option maxRecDepth 100000 in
theorem contains_any (p : C → Bool) (g : Nat) (lb : Array Value) (eg : ∀ args w, (callFunc g args).run Try.prog w = .ok (.enter g args) w) (A0 : Option Addr) (c0 : Nat) (l0 : List C) (w : World) (hr0 : Kd.C k29 w A0 l0.length l0) (hlen : l0.length ≤ 9223372036854775806)
    (hp : ∀ (W : World) (x : C), x ∈ l0 → Below w.heap.size w W → Calls Try.prog g (#[.agg #[.string x.f0, .int .i64 x.f1]] ++ lb) W fun e w' => e = .returned (.bool (p x)) ∧ Below W.heap.size W w') :
    Calls Try.prog 38 #[.slice A0 l0.length c0, .func (.func g) #[] lb] w fun e w' => e = .returned (.bool (l0.any p)) ∧ Below w.heap.size w w' := by
  have hcon := index_any p g lb eg A0 c0 l0 w hr0 hlen hp
  clear hp hr0
  go_enter Try.func38, Try.ntmps38
  go_wp2_with (go_at_call 46; refine hcon.mono ?_; rintro e w' ⟨⟨r, rfl, hr⟩, hb⟩)
  go_ret
  exact ⟨by rw [← hr]; rfl, hb⟩
set_option maxHeartbeats 8000000 in
set_option maxRecDepth 100000 in
theorem Any1.calls (q : Nat) (name : ByteArray) (c : C) (W : World) (hq : W.cell? ⟨q, 0, none⟩ = some (.string name)) : Calls Try.prog 39 (#[.agg #[.string c.f0, .int .i64 c.f1]] ++ #[.pointer (some ⟨q, 0, none⟩)]) W fun e w' => e = .returned (.bool (c.f0.toList == name.toList)) ∧ Below W.heap.size W w' := by
  replace hq := fun (o : Obj) => ((below_alloc (Below.refl W.heap.size W) o).cell (World.block_lt_of_cell? W _ hq)).trans hq
  go_enter Try.func39, Try.ntmps39
  go_wp2
  go_ret
  exact ⟨rfl, below_alloc (Below.refl _ _) _⟩
/-! ### A store that is not there -/
set_option maxHeartbeats 8000000 in
set_option maxRecDepth 100000 in
theorem List.calls_nil (w : World) : Calls Try.prog 12 #[.pointer none] w fun e w' => e = .returned (.slice none 0 0) ∧ Below w.heap.size w w' := by
  go_enter Try.func12, Try.ntmps12
  go_wp2
  go_ret
  exact ⟨rfl, Below.refl _ _⟩
/-- Any, of the list that List hands back. -/
theorem any_of (name : ByteArray) (L : List C) (A : Option Addr) (c : Nat) (w : World) (q : Nat) (hq : w.cell? ⟨q, 0, none⟩ = some (.string name)) (hC : Kd.C k29 w A L.length L) (hl : L.length ≤ 1000) :
    Calls Try.prog 38 #[.slice A L.length c, .func (.func 39) #[] #[.pointer (some ⟨q, 0, none⟩)]] w fun e w' => e = .returned (.bool (L.any fun c => c.f0.toList == name.toList)) ∧ Below w.heap.size w w' :=
  contains_any _ 39 #[.pointer (some ⟨q, 0, none⟩)] (enters_of Try.func39 (by kernel_rfl) rfl) A c L w hC (by omega) (fun W x _ hW => Any1.calls q name x W ((hW.cell (World.block_lt_of_cell? w _ hq)).trans hq))
set_option maxHeartbeats 8000000 in
set_option maxRecDepth 100000 in
theorem Any.calls_nil (name : ByteArray) (w : World) : Calls Try.prog 22 #[.pointer none, .string name] w fun e w' => e = .returned (.bool false) ∧ Below w.heap.size w w' := by
  have hL := fun (W : World) => List.calls_nil W
  have hA := fun (W : World) (hq : W.cell? ⟨w.heap.size, 0, none⟩ = some (.string name)) => any_of name [] none 0 W w.heap.size hq (Kd.C_nil _ _) (by decide)
  go_enter Try.func22, Try.ntmps22
  go_wp2_with (first | (go_at_call 12; refine (hL _).mono ?_; rintro e w1 ⟨rfl, B1⟩; have hq := blk_cell (blk_below (blk_new w (.cells #[.string name] 9 (0, 0))) B1) 0; have B2 := below_go (below_alloc (Below.refl w.heap.size w) (.cells #[.string name] 9 (0, 0))) (by simp) B1; clear B1) | (go_at_call 38; refine (hA _ hq).mono ?_; rintro e w2 ⟨rfl, B3⟩))
  go_ret
  exact ⟨rfl, below_go B2 B2.size B3⟩
set_option maxHeartbeats 8000000 in
set_option maxRecDepth 100000 in
theorem Any.calls (s b : Nat) (L : List C) (name : ByteArray) (w : World) (h : Held w s b L) (hl : L.length ≤ 1000) : Calls Try.prog 22 #[.pointer (some ⟨s, 0, none⟩), .string name] w fun e w' => e = .returned (.bool (L.any fun c => c.f0.toList == name.toList)) ∧ Below w.heap.size w w' := by
  have hL := List.calls s b L _ (h.below (below_alloc (Below.refl w.heap.size w) (.cells #[.string name] 9 (0, 0)))) hl
  have HA := Aside0.mk (fun (W : World) (A : Option Addr) (c : Nat) (hq : W.cell? ⟨w.heap.size, 0, none⟩ = some (.string name)) (hC : Kd.C k29 W A L.length L) => any_of name L A c W w.heap.size hq hC hl)
  clear h
  generalize (L.any fun c => c.f0.toList == name.toList) = r at HA ⊢
  go_enter Try.func22, Try.ntmps22
  go_wp2_with (first | (go_at_call 12; refine hL.mono ?_; rintro e w1 ⟨v, rfl, R1, B1⟩; obtain ⟨A1, k1, rfl, hk1, hC1⟩ := Kd.R_reads R1; have HQ := Aside0.mk (blk_cell (blk_below (blk_new w (.cells #[.string name] 9 (0, 0))) B1) 0); have B2 := below_go (below_alloc (Below.refl w.heap.size w) (.cells #[.string name] 9 (0, 0))) (by simp) B1; have HC1 := Aside0.mk hC1; clear B1 R1 hC1 hL) | (go_at_call 38; refine (HA.out _ _ _ HQ.out HC1.out).mono ?_; rintro e w2 ⟨rfl, B3⟩))
  go_ret
  exact ⟨rfl, below_go B2 B2.size B3⟩
set_option maxHeartbeats 8000000 in
set_option maxRecDepth 100000 in
theorem drop.calls_nil (f : Value) (w : World) : Calls Try.prog 30 #[.pointer none, f] w fun e w' => e = .returned (.int .i64 0) ∧ Below w.heap.size w w' := by
  go_enter Try.func30, Try.ntmps30
  go_wp2
  go_ret
  exact ⟨rfl, Below.refl _ _⟩
set_option maxHeartbeats 8000000 in
set_option maxRecDepth 100000 in
theorem Drop.calls_nil (c : C) (w : World) : Calls Try.prog 16 #[.pointer none, .agg #[.string c.f0, .int .i64 c.f1]] w fun e w' => e = .returned (.bool false) ∧ Below w.heap.size w w' := by
  have hd := fun f W => drop.calls_nil f W
  go_enter Try.func16, Try.ntmps16
  go_wp2_with (go_at_call 30; refine (hd _ _).mono ?_; rintro e w1 ⟨rfl, B1⟩; have B2 := below_go (below_alloc (Below.refl w.heap.size w) (.cells #[.string c.f0, .int .i64 c.f1] 29 (0, 0))) (by simp) B1; clear B1)
  go_ret
  exact ⟨rfl, B2⟩
set_option maxHeartbeats 8000000 in
set_option maxRecDepth 100000 in
theorem DropAll.calls_nil (name : ByteArray) (w : World) : Calls Try.prog 19 #[.pointer none, .string name] w fun e w' => e = .returned (.int .i64 0) ∧ Below w.heap.size w w' := by
  have hd := fun f W => drop.calls_nil f W
  go_enter Try.func19, Try.ntmps19
  go_wp2_with (go_at_call 30; refine (hd _ _).mono ?_; rintro e w1 ⟨rfl, B1⟩; have B2 := below_go (below_alloc (Below.refl w.heap.size w) (.cells #[.string name] 9 (0, 0))) (by simp) B1; clear B1)
  go_ret
  exact ⟨rfl, B2⟩
set_option maxHeartbeats 8000000 in
set_option maxRecDepth 100000 in
theorem Clean.calls_nil (day : Int) (w : World) : Calls Try.prog 13 #[.pointer none, .int .i64 day] w fun e w' => e = .returned (.int .i64 0) ∧ Below w.heap.size w w' := by
  have hd := fun f W => drop.calls_nil f W
  go_enter Try.func13, Try.ntmps13
  go_wp2_with (go_at_call 30; refine (hd _ _).mono ?_; rintro e w1 ⟨rfl, B1⟩; have B2 := below_go (below_alloc (Below.refl w.heap.size w) (.cells #[.int .i64 day] 2 (0, 0))) (by simp) B1; clear B1)
  go_ret
  exact ⟨rfl, B2⟩
set_option maxHeartbeats 8000000 in
set_option maxRecDepth 100000 in
theorem Copy.calls_nil (w : World) : Calls Try.prog 18 #[.pointer none] w fun e w' => e = .returned (.pointer none) ∧ Below w.heap.size w w' := by
  go_enter Try.func18, Try.ntmps18
  go_wp2
  go_ret
  exact ⟨rfl, Below.refl _ _⟩
end Go.Proofs.Ythneeibphelofaa.QCondPlays
