/- Calls of the laws of needs. No conditions beyond those that each theorem names. -/
import Derived.Test.YtgdnljhndjlefaaQNeedFitsNeedKnown
import Derived.Test.YtgdnljhndjlefaaQNeedFitsNeedPlain
namespace Go.Proofs.Ytgdnljhndjlefaa.QNeedFits
open Go.RowKit Go.Proofs.Ytgdnljhndjlefaa.PNeedFits Go.Proofs.YtgdnljhndjlefaaW.PrintWords Go.Proofs.YtgdnljhndjlefaaW.PrintLast Go.Proofs.YtgdnljhndjlefaaW.PrintMore Go.Proofs.Ytgdnljhndjlefaa.MMaps
set_option linter.unusedVariables false
set_option linter.unusedSimpArgs false
set_option maxRecDepth 100000
theorem toN_wf {L : List Nr} (hw : ∀ n ∈ L, wfN n) : ∀ n ∈ ndL L, n.f0.size ≤ maxLen := fun n hn => by
  obtain ⟨x, hx, rfl⟩ := List.mem_map.mp hn
  exact (hw x hx).1
theorem ndL_len (L : List Nr) : (ndL L).length = L.length := List.length_map ..
theorem Fits.of (p bt bh : Nat) (R : List Rs) (H : List Hd) (A : Option Addr) (c : Nat) (L : List Nr) (w : World) (h : PoolAt w p bt bh R H) (hC : Kd.C k52 w A (L.map toN).length (L.map toN)) (hc : L.length ≤ c) (hw : ∀ n ∈ L, wfN n) (hl : L.length ≤ 4398046511100) :
    Calls Try.prog 16 #[.pointer (some ⟨p, 0, none⟩), .slice A L.length c] w fun e w' => e = .returned (.int .i64 (fitsOf R (ndL L))) ∧ Below w.heap.size w w' := by
  have := Fits.calls p bt bh R H A c (ndL L) w h hC (by rw [ndL_len]; exact hc) (toN_wf hw) (by rw [ndL_len]; omega)
  rw [ndL_len] at this
  exact this
theorem Both.of (p bt bh : Nat) (R : List Rs) (H : List Hd) (A : Option Addr) (c : Nat) (L : List Nr) (A' : Option Addr) (c' : Nat) (M : List Nr) (w : World) (h : PoolAt w p bt bh R H) (hC : Kd.C k52 w A (L.map toN).length (L.map toN)) (hc : L.length ≤ c) (hw : ∀ n ∈ L, wfN n) (hl : L.length ≤ 4398046511100) (hC' : Kd.C k52 w A' (M.map toN).length (M.map toN)) (hc' : M.length ≤ c') (hw' : ∀ n ∈ M, wfN n) (hl' : M.length ≤ 4398046511100) (hR : R.length ≤ 50000) :
    Calls Try.prog 18 #[.pointer (some ⟨p, 0, none⟩), .slice A L.length c, .slice A' M.length c'] w fun e w' => e = .returned (.bool (bothOf R (ndL L) (ndL M))) ∧ Below w.heap.size w w' := by
  have := Both.calls p bt bh R H A c (ndL L) A' c' (ndL M) w h hC (by rw [ndL_len]; exact hc) (toN_wf hw) (by rw [ndL_len]; omega) hC' (by rw [ndL_len]; exact hc') (toN_wf hw') (by rw [ndL_len]; omega) hR
  rw [ndL_len, ndL_len] at this
  exact this
theorem more_than (n k : Nat) : ((k < n) ∧ decide ((n : Int) > (k : Int)) = true ∧ decide ((k : Int) < (n : Int)) = true) ∨ ((¬ k < n) ∧ decide ((n : Int) > (k : Int)) = false ∧ decide ((k : Int) < (n : Int)) = false) := by
  by_cases h : k < n
  · exact .inl ⟨h, decide_eq_true (by omega), decide_eq_true (by omega)⟩
  · exact .inr ⟨h, decide_eq_false (by omega), decide_eq_false (by omega)⟩
theorem more_than0 (n : Nat) : ((0 < n) ∧ decide ((n : Int) > 0) = true ∧ decide ((0 : Int) < (n : Int)) = true) ∨ ((¬ 0 < n) ∧ decide ((n : Int) > 0) = false ∧ decide ((0 : Int) < (n : Int)) = false) := more_than n 0
theorem take_good' {R : List Rs} {H : List Hd} {o : Int} {l : List Nd} (hg : Good R H) (ho : (Lit.int .i64 o).wf = true) (hl : H.length + R.length ≤ 100000) (hw : ∀ n ∈ l, n.f0.size ≤ maxLen) : Good R (takeOf R H o l) := by
  unfold takeOf
  split
  · rename_i h
    have hc := may_can h
    have hr := takeOf_len' h
    have := takes_good hc hg ho hw (by omega) l.length (Nat.le_refl _)
    rwa [List.take_length] at this
  · exact hg
end Go.Proofs.Ytgdnljhndjlefaa.QNeedFits
