/- The calls that the law CondPlays takes, read; a copy that goes on. No conditions beyond those that each theorem names. -/
import Derived.Test.YthneeibphelofaaQCondPlaysCondArgs
import Derived.Test.YthneeibphelofaaQCondPlaysCondDo
namespace Go.Proofs.Ythneeibphelofaa.QCondPlays
open Go.RowKit Go.Proofs.Ythneeibphelofaa.PCondPlays Go.Proofs.YthneeibphelofaaW.PrintWords Go.Proofs.YthneeibphelofaaW.PrintLast Go.Proofs.YthneeibphelofaaW.PrintMore
set_option linter.unusedVariables false
set_option linter.unusedSimpArgs false
/-- A call. -/
structure Turn where
  f0 : Int
  f1 : C
def zT : Turn := ⟨0, ⟨⟨#[]⟩, 0⟩⟩
def kA : Kd Turn := Kd.iso (Kd.pair (Kd.int .i64) k29) (fun x : Turn => (x.f0, x.f1))
theorem kA_open {w : World} {x : Turn} {cs : List Value} (h : kA.K w x cs) : cs = [.int .i64 x.f0, .string x.f1.f0, .int .i64 x.f1.f1] := by
  obtain ⟨a, b, rfl, rfl, h⟩ := h
  obtain rfl := k29_open h
  rfl
theorem at_A {w : World} {A : Option Addr} {xs : List Turn} (h : Kd.C kA w A xs.length xs) (i : Nat) (h1 : i < xs.length) : ∃ ad, A = some ad ∧ w.cell? (ad.add (i * 3)) = some (.int .i64 xs[i].f0) ∧ w.cell? ⟨(ad.add (i * 3)).block, (ad.add (i * 3)).off + 1, none⟩ = some (.string xs[i].f1.f0) ∧ w.cell? ⟨(ad.add (i * 3)).block, (ad.add (i * 3)).off + 2, none⟩ = some (.int .i64 xs[i].f1.f1) := by
  obtain ⟨ad, c, e, _, hK, hc0⟩ := Kd.C_get h zT (i : Int) (by omega) (by omega)
  have hx : xs.getD (i : Int).toNat zT = xs[i] := by simp [List.getD, List.getElem?_eq_getElem h1]
  rw [hx] at hK
  have hc : ∀ j u, c[j]? = some u → w.cell? (ad.add (i * 3 + j)) = some u := by rw [Int.toNat_natCast] at hc0; exact hc0
  obtain rfl := kA_open hK
  exact ⟨ad, e, hc 0 _ rfl, by rw [← add_field _ _ 1 (by omega)]; exact hc 1 _ rfl, by rw [← add_field _ _ 2 (by omega)]; exact hc 2 _ rfl⟩
theorem rd_act (w : World) (n : Nat) : Rd Try.prog w 42 kA (fun a => (Lit.int .i64 a.f0).wf = true ∧ wfC a.f1) n := by
  cases n with
  | zero => exact Rd.zero _ _
  | succ n =>
    exact Rd.iso (Rd.struct (P := Try.prog) (w := w) (n := n) Try.underlying42 (by kernel_rfl) (RdF.cons (off := 0) rfl (by kernel_rfl) (Rd.int Try.underlying3) (RdF.one rfl (by kernel_rfl) (rd_cond w n)))) (fun x : Turn => (x.f0, x.f1)) (fun p => ⟨p.1, p.2⟩) (fun p => rfl)
theorem rd_acts (w : World) (n : Nat) : Rd Try.prog w 38 (Kd.slice 42 kA) (fun l => l.length * 32 ≤ 140737488351232 ∧ ∀ a ∈ l, (Lit.int .i64 a.f0).wf = true ∧ wfC a.f1) n := by
  cases n with
  | zero => exact Rd.zero _ _
  | succ n =>
    have h := Rd.slice (w := w) (n := n) (d := kA) (Ok := fun a => (Lit.int .i64 a.f0).wf = true ∧ wfC a.f1) Try.underlying38 (by kernel_rfl) (by decide) (rd_act w n)
    exact h.imp (fun l cs hk ho => ⟨hk, (show Try.prog.bytesOf 42 = 32 by kernel_rfl) ▸ ho.1, ho.2⟩)
/-- Where the reference's list may lie. -/
def okF (r s b : Nat) : Nat → Prop := fun k => k ≠ r ∧ k ≠ b ∧ k ≠ s
/-- A copy goes on; the old store takes calls of its own. -/
theorem copied {w w2 w3 w4 : World} {s b r s' b' : Nat} {L : List C} (H : Both w s b r (okF r s b) L) (hs : w.heap.size ≤ s') (hb : w.heap.size ≤ b') (h2 : Held w2 s' b' L) (B2 : Below w.heap.size w w2) (g3 : w2.grownBy w3 (some b)) (g4 : w3.grownBy w4 (some b)) : Both w4 s' b' r (okF r s' b') L ∧ ∀ B, B ≤ b → B ≤ w.heap.size → Below B w w4 := by
  have lb := H.held.ltb
  have lr := H.ref.lt
  have nb : some r ≠ some b := by simpa using H.br.symm
  have nok : ∀ k, (okF r s b k ∧ k < w.heap.size) → some k ≠ some b := fun k hk e => by injection e with e; exact hk.1.2.1 e
  refine ⟨⟨(h2.kept g3 (by simp; omega) (by simp; omega)).kept g4 (by simp; omega) (by simp; omega), ?_, H.tame, by omega, by omega, fun h => h.1 rfl, fun h => h.2.1 rfl, fun h => h.2.2 rfl⟩, fun B p q => (B2.mono q).trans ((grown_below g3 p (Nat.le_trans q B2.size)).trans (grown_below g4 p (Nat.le_trans q (Nat.le_trans B2.size g3.size))))⟩
  exact ((((H.ref.mono (ok' := fun k => okF r s b k ∧ k < w.heap.size) (fun k h1 h2 => ⟨h1, h2⟩)).below B2).grown g3 nb nok).grown g4 nb nok).mono (fun k h _ => ⟨h.1.1, by omega, by omega⟩)
end Go.Proofs.Ythneeibphelofaa.QCondPlays
