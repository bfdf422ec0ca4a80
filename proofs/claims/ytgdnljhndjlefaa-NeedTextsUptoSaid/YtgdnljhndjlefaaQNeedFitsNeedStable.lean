/- Needs in order of their names: Sorted, for at most 20. No conditions beyond those that each theorem names. -/
import Derived.Test.YtgdnljhndjlefaaQNeedFitsNeedSort
namespace Go.Proofs.Ytgdnljhndjlefaa.QNeedFits
open Go.RowKit Go.Proofs.Ytgdnljhndjlefaa.PNeedFits Go.Proofs.YtgdnljhndjlefaaW.PrintWords Go.Proofs.YtgdnljhndjlefaaW.PrintLast Go.Proofs.YtgdnljhndjlefaaW.PrintMore Go.Proofs.Ytgdnljhndjlefaa.MMaps
set_option linter.unusedVariables false
set_option linter.unusedSimpArgs false
set_option maxRecDepth 100000
set_option maxHeartbeats 8000000 in
theorem stable.calls (g cap : Nat) (L : List Nd) (w : World) (h : RowAt w g cap L) (h20 : L.length ≤ 20) :
    Calls Try.prog 56 #[.slice (some ⟨g, 0, none⟩) L.length cap, .int .i64 L.length, .func (.func 42) #[] #[]] w fun e w' => e = .returned (.tuple #[]) ∧ RowAt w' g cap (insL L 0 L.length) ∧ w.grownBy w' (some g) := by
  have h1 := ins.calls g cap 0 L.length L w h (Nat.zero_le _) (Nat.le_refl _) (by omega)
  rcases Nat.lt_or_ge L.length 20 with hlt | hge
  · have b1 : decide ((20 : Int) ≤ (L.length : Int)) = false := decide_eq_false (by omega)
    have b2 : decide ((20 : Int) < (L.length : Int)) = false := decide_eq_false (by omega)
    go_enter Try.func56, Try.ntmps56
    go_wp2
    refine wp_loop_rounds 1 ?_
    rw [rounds_succ]
    go_wp2_with (go_at_call 73; refine h1.mono ?_; rintro e w1 ⟨rfl, hR, hG⟩)
    refine wp_loop_rounds 1 ?_
    rw [rounds_succ]
    go_wp2
    go_end0
    exact ⟨rfl, hR, hG⟩
  · have hn : L.length = 20 := by omega
    have hl2 : (insL L 0 L.length).length = L.length := insL_len L 0 L.length (Nat.zero_le _) (Nat.le_refl _)
    have h2 := fun W (hW : RowAt W g cap (insL L 0 L.length)) => ins.calls g cap 20 20 (insL L 0 L.length) W hW (Nat.le_refl _) (by omega) (by omega)
    simp only [ins_none, hl2] at h2
    rw [hn] at h1 h2 ⊢
    have h1' := h1
    go_enter Try.func56, Try.ntmps56
    go_wp2
    refine wp_loop_rounds 2 ?_
    rw [rounds_succ]
    go_wp2_with (go_at_call 73; refine h1.mono ?_; rintro e w1 ⟨rfl, hR, hG⟩)
    rw [rounds_succ]
    go_wp2_with (go_at_call 73; refine (h2 _ hR).mono ?_; rintro e w2 ⟨rfl, hR2, hG2⟩)
    refine wp_loop_rounds 1 ?_
    rw [rounds_succ]
    go_wp2
    go_end0
    exact ⟨rfl, hR2, hG.andThen (row' := some g) hG2 (fun j hj => .inr hj)⟩
set_option maxHeartbeats 8000000 in
theorem sortStable.calls (g cap : Nat) (L : List Nd) (w : World) (h : RowAt w g cap L) (h20 : L.length ≤ 20) :
    Calls Try.prog 41 #[.slice (some ⟨g, 0, none⟩) L.length cap, .func (.func 42) #[] #[]] w fun e w' => e = .returned (.tuple #[]) ∧ RowAt w' g cap (insL L 0 L.length) ∧ w.grownBy w' (some g) := by
  have h1 := stable.calls g cap L w h h20
  go_enter Try.func41, Try.ntmps41
  go_wp2_with (go_at_call 56; refine h1.mono ?_; rintro e w1 ⟨rfl, hR, hG⟩)
  go_end0
  exact ⟨rfl, hR, hG⟩
@[go_sem] theorem eql_none (w : World) : (binOp .eql 33 (.slice none 0 0) (.slice none 0 0)).run Try.prog w = .ok (.bool true) w := by kernel_rfl
@[go_sem] theorem eql_some (ad : Addr) (n c : Nat) (w : World) : (binOp .eql 33 (.slice (some ad) n c) (.slice none 0 0)).run Try.prog w = .ok (.bool false) w := by kernel_rfl
set_option maxHeartbeats 8000000 in
theorem Clone.calls (A : Option Addr) (c : Nat) (L : List Nd) (w : World) (hC : Kd.C k52 w A L.length L) (hc : L.length ≤ c) (hl : L.length ≤ 100000) (hn : A = none → c = 0) :
    Calls Try.prog 40 #[.slice A L.length c] w fun e w' => ∃ v, e = .returned v ∧ Kd.R k52 52 w' w.heap.size (fun k => w.heap.size ≤ k) v L ∧ Below w.heap.size w w' := by
  cases A with
  | none =>
    have hL : L = [] := by
      cases L with
      | nil => rfl
      | cons a r => obtain ⟨ad, e, _⟩ := hC.2.2 (by simp); cases e
    have hc0 := hn rfl
    subst hL hc0
    clear hC
    go_enter Try.func40, Try.ntmps40
    go_wp2
    go_ret
    exact ⟨_, rfl, Kd.R_nil _ _ _ _ _, Below.refl _ _⟩
  | some ad =>
    have HC := Aside0.mk hC
    clear hC hn
    go_enter Try.func40, Try.ntmps40
    go_wp2_with ((with_reducible refine gate_builtin (b := .append) (xs := #[.tmp 5, .tmp 6]) rfl ?_); at_builtin; refine Kd.R_append_rows k52 (w0 := w) w.heap.size rfl (.tmp 5) (.tmp 6) 33 52 (.agg #[.string ⟨#[]⟩, .int .i64 0, .int .i64 0]) 32 rfl Try.underlying33 info52 rfl (by decide) (by decide) (.slice (some ⟨w.heap.size, 0, none⟩) 0 0) [] L (some ad) L.length c (fun k => w.heap.size ≤ k) (fun _ => False) rfl rfl ?aO (Kd.C_below HC.out (below_alloc (Below.refl _ _) _)) ?aK (fun _ hk => hk.elim) ?aF ?aB ?aS ?aL ?_; (case aO => exact RowAt.R (L := []) ⟨⟨#[], blk_new _ _, rfl, fun t ht => absurd ht (by simp)⟩, Nat.le_refl _, Nat.zero_le _⟩ (Nat.le_refl _) (Nat.le_refl _)); (case aK => intro x cs hx; rw [k52_open hx]; exact k52_mkM _ _ _ x); (case aF => exact (fun k hk => by simp at hk; omega)); (case aB => exact below_alloc (Below.refl _ _) _); (case aS => simp); (case aL => simp; omega); intro v1 w1 hR hB hG hat; have HR := Aside0.mk hR; have HB := Aside0.mk hB; clear hR hB hG hat)
    go_ret
    exact ⟨_, rfl, HR.out, HB.out⟩
theorem ins_nil (w : World) : Calls Try.prog 73 #[.slice none 0 0, .int .i64 0, .int .i64 0, .func (.func 42) #[] #[]] w fun e w' => e = .returned (.tuple #[]) ∧ Drawn0 w w' := by
  go_enter Try.func73, Try.ntmps73
  go_wp2
  refine wp_loop_rounds 1 ?_
  rw [rounds_succ]
  go_wp2
  go_end0
  exact ⟨rfl, by first | exact Drawn0.refl _ | exact ⟨_, rfl⟩⟩
theorem stable_nil (w : World) : Calls Try.prog 56 #[.slice none 0 0, .int .i64 0, .func (.func 42) #[] #[]] w fun e w' => e = .returned (.tuple #[]) ∧ Drawn0 w w' := by
  go_enter Try.func56, Try.ntmps56
  go_wp2
  refine wp_loop_rounds 1 ?_
  rw [rounds_succ]
  go_wp2_with (go_at_call 73; refine (ins_nil _).mono ?_; rintro e w1 ⟨rfl, d1⟩)
  refine wp_loop_rounds 1 ?_
  rw [rounds_succ]
  go_wp2
  go_end0
  exact ⟨rfl, d1⟩
theorem sortStable_nil (w : World) : Calls Try.prog 41 #[.slice none 0 0, .func (.func 42) #[] #[]] w fun e w' => e = .returned (.tuple #[]) ∧ Drawn0 w w' := by
  go_enter Try.func41, Try.ntmps41
  go_wp2_with (go_at_call 56; refine (stable_nil _).mono ?_; rintro e w1 ⟨rfl, d1⟩)
  go_end0
  exact ⟨rfl, d1⟩
set_option maxHeartbeats 8000000 in
theorem Sorted.calls (A : Option Addr) (c : Nat) (L : List Nd) (w : World) (hC : Kd.C k52 w A L.length L) (hc : L.length ≤ c) (h20 : L.length ≤ 20) (hn : A = none → c = 0) :
    Calls Try.prog 23 #[.slice A L.length c] w fun e w' => ∃ v, e = .returned v ∧ Kd.R k52 52 w' w.heap.size (fun _ => True) v (insL L 0 L.length) ∧ Below w.heap.size w w' := by
  have hCl := Clone.calls A c L w hC hc (by omega) hn
  clear hC
  go_enter Try.func23, Try.ntmps23
  go_upto_region 2 with (go_at_call 40; refine hCl.mono ?_; rintro e w1 ⟨v1, rfl, hR1, hB1⟩)
  rcases RowAt.of hR1 with ⟨rfl, rfl⟩ | ⟨g, cap, rfl, hg, hok, hR⟩
  · go_wp2_with (go_at_call 41; refine (sortStable_nil _).mono ?_; rintro e w2 ⟨rfl, d2⟩)
    go_ret
    exact ⟨_, rfl, by rw [show insL [] 0 ([] : List Nd).length = [] from ins_none [] 0]; exact Kd.R_nil _ _ _ _ _, below_go hB1 hB1.size d2.below⟩
  · have hs := sortStable.calls g cap L w1 hR h20
    have hll := insL_len L 0 L.length (Nat.zero_le _) (Nat.le_refl _)
    clear hR1
    obtain ⟨M, hM⟩ : ∃ M, insL L 0 L.length = M := ⟨_, rfl⟩
    rw [hM] at hs hll
    have HM := Aside0.mk hM
    clear hM
    go_wp2_with (go_at_call 41; refine hs.mono ?_; rintro e w2 ⟨rfl, hR2, hG2⟩)
    go_ret
    exact ⟨_, rfl, by have := hR2.R (base := w.heap.size) (ok := fun _ => True) hg trivial; rw [hll] at this; rw [HM.out]; exact this, hB1.trans (grown_below hG2 hg hB1.size)⟩
end Go.Proofs.Ytgdnljhndjlefaa.QNeedFits
