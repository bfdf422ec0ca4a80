/- What the law CalMoved asks holds: due, the days of both, and the fixed calls; for all calendars, nodes, directions and days. -/
import Derived.Test.YtpcjbnaggeiaoaaDoorQCalMovedCalDue
import Derived.Test.YtpcjbnaggeiaoaaDoorQCalMovedCalArgs
namespace Go.Proofs.YtpcjbnaggeiaoaaDoor.QCalMoved
open Go.RowKit Go.Proofs.YtpcjbnaggeiaoaaDoor.PCalMoved Go.Proofs.YtpcjbnaggeiaoaaDoorW.PrintWords Go.Proofs.YtpcjbnaggeiaoaaDoorW.PrintLast Go.Proofs.YtpcjbnaggeiaoaaDoorW.PrintMore Go.Proofs.YtpcjbnaggeiaoaaDoor.MDate Go.Proofs.YtpcjbnaggeiaoaaDoor.MBits
set_option linter.unusedVariables false
set_option linter.unusedSimpArgs false
set_option maxRecDepth 100000 in
theorem known_is : dayshiftlaw06_known.f 300 = some true := by kernel_rfl
theorem known_ev : Ev (fun k => dayshiftlaw06_known.f k) true := Ev.of (fun k => dayshiftlaw06_known.mono k) known_is
theorem moved_pure (l : List RC) (hl : l.length * 88 ≤ 140737488351232) (hc : ∀ c ∈ l, NodeOk c.f1) (n m : RN) (hn : NodeOk n) (hm : NodeOk m) (dir day : Int) :
    ∃ (k : Nat) (lc : List CC) (x y : CN) (due a b : Bool) (e : Int), dayshiftlaw06_cals.f k l = some lc ∧ dayshiftlaw06_given.f k n.f0 n.f1 n.f2 n.f3 = some (x.f0, x.f1, x.f2, x.f3) ∧ dayshiftlaw06_given.f k m.f0 m.f1 m.f2 m.f3 = some (y.f0, y.f1, y.f2, y.f3) ∧
      cal_Due.f k lc x.f0 x.f1 x.f2 x.f3 y.f0 y.f1 y.f2 y.f3 dir day = some (due, e) ∧ (e ≠ 0 → due = false) ∧ (e = 0 → cal_In.f k lc x.f0 x.f1 x.f2 x.f3 day = some (a, 0)) ∧ (e = 0 → cal_In.f k lc y.f0 y.f1 y.f2 y.f3 day = some (b, 0)) ∧ (e = 0 → due = true → b = true) ∧ (e = 0 → a = true → b = true → due = true) ∧ (e = 0 → dir = 0 → due = (a && b)) ∧ dayshiftlaw06_known.f k = some true := by
  obtain ⟨lc, ⟨K1, h1⟩, hls, hlen, _⟩ := cals_ev l hl hc
  obtain ⟨x, ⟨K2, h2⟩, sx, _⟩ := given_ev n hn
  obtain ⟨y, ⟨K3, h3⟩, sy, _⟩ := given_ev m hm
  have hll : lc.length ≤ 1000000000000000000 := by omega
  obtain ⟨due, e, ⟨K4, h4⟩, h5, h6⟩ := due_law lc hll hls x y sx sy dir day
  obtain ⟨K5, h7⟩ := In_ev lc hll hls x sx day
  obtain ⟨K6, h8⟩ := In_ev lc hll hls y sy day
  obtain ⟨K7, h9⟩ := known_ev
  refine ⟨K1 + K2 + K3 + K4 + K5 + K6 + K7, lc, x, y, due, inOf lc x day, inOf lc y day, e, h1 _ (by omega), h2 _ (by omega), h3 _ (by omega), h4 _ (by omega), h5, fun z => ?_, fun z => ?_, fun z => (h6 z).2.2.1, fun z => (h6 z).2.2.2.1, fun z => (h6 z).2.2.2.2, h9 _ (by omega)⟩
  · have := h7 (K1 + K2 + K3 + K4 + K5 + K6 + K7) (by omega)
    rw [(h6 z).1] at this
    exact this
  · have := h8 (K1 + K2 + K3 + K4 + K5 + K6 + K7) (by omega)
    rw [(h6 z).2.1] at this
    exact this
end Go.Proofs.YtpcjbnaggeiaoaaDoor.QCalMoved
