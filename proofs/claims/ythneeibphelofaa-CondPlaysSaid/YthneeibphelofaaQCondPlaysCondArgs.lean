/- The laws' arguments, read: conditions, lists of them. No conditions beyond those that each theorem names. -/
import Derived.Test.YthneeibphelofaaQCondPlaysCondKnown
import Derived.Test.YthneeibphelofaaMOpen
namespace Go.Proofs.Ythneeibphelofaa.QCondPlays
open Go.RowKit Go.Proofs.Ythneeibphelofaa.PCondPlays Go.Proofs.YthneeibphelofaaW.PrintWords Go.Proofs.YthneeibphelofaaW.PrintLast Go.Proofs.YthneeibphelofaaW.PrintMore
set_option linter.unusedVariables false
set_option linter.unusedSimpArgs false
theorem rd_cond (w : World) (n : Nat) : Rd Try.prog w 29 k29 wfC n := by
  cases n with
  | zero => exact Rd.zero _ _
  | succ n =>
    have h := Rd.struct (P := Try.prog) (w := w) (n := n) Try.underlying29 (by kernel_rfl) (RdF.cons (off := 0) rfl (by kernel_rfl) (Rd.string Try.underlying9) (RdF.one rfl (by kernel_rfl) (Rd.int Try.underlying2)))
    intro H enc cs x hx hw
    obtain ⟨⟨⟨a0, a1⟩, hk, o0, o1⟩, h3⟩ := h H enc cs x hx hw
    exact ⟨⟨⟨a0, a1⟩, hk, Nat.le_trans o0 (by decide), o1⟩, h3⟩
theorem rd_conds (w : World) (n : Nat) : Rd Try.prog w 22 (Kd.slice 29 k29) (fun l => l.length * 24 ≤ 140737488351232 ∧ ∀ c ∈ l, wfC c) n := by
  cases n with
  | zero => exact Rd.zero _ _
  | succ n =>
    have h := Rd.slice (w := w) (n := n) (d := k29) (Ok := wfC) Try.underlying22 (by kernel_rfl) (by decide) (rd_cond w n)
    exact h.imp (fun l cs hk ho => ⟨hk, (show Try.prog.bytesOf 29 = 24 by kernel_rfl) ▸ ho.1, ho.2⟩)
end Go.Proofs.Ythneeibphelofaa.QCondPlays
