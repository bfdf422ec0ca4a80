/- The law's arguments, read: nodes and calendars. No conditions beyond those that each theorem names. -/
import Derived.Test.YtpcjbnaggeiaoaaDoorQCalMovedCalGiven
import Derived.Test.YtpcjbnaggeiaoaaDoorMOpen
namespace Go.Proofs.YtpcjbnaggeiaoaaDoor.QCalMoved
open Go.RowKit Go.Proofs.YtpcjbnaggeiaoaaDoor.PCalMoved Go.Proofs.YtpcjbnaggeiaoaaDoorW.PrintWords Go.Proofs.YtpcjbnaggeiaoaaDoorW.PrintLast Go.Proofs.YtpcjbnaggeiaoaaDoorW.PrintMore
set_option linter.unusedVariables false
set_option linter.unusedSimpArgs false
theorem rd_ints (w : World) (n : Nat) : Rd Tryd.prog w 23 (Kd.slice 2 (Kd.int .i64)) (fun l => l.length * 8 ≤ reachBytes ∧ ∀ a ∈ l, (Lit.int .i64 a).wf = true) n := by
  cases n with
  | zero => exact Rd.zero _ _
  | succ n =>
    have h := Rd.slice (w := w) (n := n) (d := Kd.int .i64) Tryd.underlying23 (by kernel_rfl) (by decide) (Rd.int Tryd.underlying2)
    exact h.imp (fun l cs hk ho => ⟨hk, (show Tryd.prog.bytesOf 2 = 8 by kernel_rfl) ▸ ho.1, ho.2⟩)
theorem rd_node (w : World) : ∀ n, Rd Tryd.prog w 26 k26 NodeOk n := by
  intro n
  induction n using Nat.strongRecOn with
  | _ n ih =>
  cases n with
  | zero => exact Rd.zero _ _
  | succ n =>
    have hk : Rd Tryd.prog w 24 (Kd.slice 26 k26) (fun l => l.length * 72 ≤ reachBytes ∧ ∀ a ∈ l, NodeOk a) n := by
      cases n with
      | zero => exact Rd.zero _ _
      | succ n =>
        have h := Rd.slice (w := w) (n := n) (d := k26) (Ok := NodeOk) Tryd.underlying24 (by kernel_rfl) (by decide) (ih n (by omega))
        exact h.imp (fun l cs hk ho => ⟨hk, (show Tryd.prog.bytesOf 26 = 72 by kernel_rfl) ▸ ho.1, ho.2⟩)
    have h := Rd.struct (P := Tryd.prog) (w := w) (n := n) Tryd.underlying26 (by kernel_rfl) (RdF.cons (off := 0) rfl (by kernel_rfl) (Rd.int Tryd.underlying3) (RdF.cons rfl (by kernel_rfl) (rd_ints w n) (RdF.cons rfl (by kernel_rfl) hk (RdF.one rfl (by kernel_rfl) (Rd.string Tryd.underlying9)))))
    intro H enc cs x hx hw
    obtain ⟨⟨⟨a0, a1, a2, a3⟩, ⟨c0, _, rfl, rfl, c1, _, rfl, ⟨A1, p1, rfl, l1, g1⟩, c2, _, rfl, ⟨A2, p2, rfl, l2, g2⟩, rfl⟩, o0, ⟨o1, o1'⟩, ⟨o2, o2'⟩, o3⟩, h3⟩ := h H enc cs x hx hw
    exact ⟨⟨⟨a0, a1, a2, a3⟩, k26_mk w ⟨a0, a1, a2, a3⟩ l1 g1 l2 g2, .mk _ o1 o1' o2 o2' o3⟩, h3⟩
theorem rd_cal (w : World) (n : Nat) : Rd Tryd.prog w 46 k46 (fun c => NodeOk c.f1) n := by
  cases n with
  | zero => exact Rd.zero _ _
  | succ n =>
    have h := Rd.struct (P := Tryd.prog) (w := w) (n := n) Tryd.underlying46 (by kernel_rfl) (RdF.cons (off := 0) rfl (by kernel_rfl) (Rd.string Tryd.underlying9) (RdF.one rfl (by kernel_rfl) (rd_node w n)))
    intro H enc cs x hx hw
    obtain ⟨⟨⟨a0, a1⟩, hk, o0, o1⟩, h3⟩ := h H enc cs x hx hw
    exact ⟨⟨⟨a0, a1⟩, hk, o1⟩, h3⟩
theorem rd_cals (w : World) (n : Nat) : Rd Tryd.prog w 22 (Kd.slice 46 k46) (fun l => l.length * 88 ≤ 140737488351232 ∧ ∀ c ∈ l, NodeOk c.f1) n := by
  cases n with
  | zero => exact Rd.zero _ _
  | succ n =>
    have h := Rd.slice (w := w) (n := n) (d := k46) (Ok := fun c => NodeOk c.f1) Tryd.underlying22 (by kernel_rfl) (by decide) (rd_cal w n)
    exact h.imp (fun l cs hk ho => ⟨hk, (show Tryd.prog.bytesOf 46 = 88 by kernel_rfl) ▸ ho.1, ho.2⟩)
end Go.Proofs.YtpcjbnaggeiaoaaDoor.QCalMoved
