/- The law PoolNil, walked: for every owner, name and number it comes to true. Each theorem names its own conditions. -/
import Derived.Test.YtgepalpcaphbeaaQPoolPlaysPoolKnown
namespace Go.Proofs.Ytgepalpcaphbeaa.QPoolPlays
open Go.RowKit Go.Proofs.Ytgepalpcaphbeaa.PPoolPlays Go.Proofs.YtgepalpcaphbeaaW.PrintWords Go.Proofs.YtgepalpcaphbeaaW.PrintLast Go.Proofs.YtgepalpcaphbeaaW.PrintMore Go.Proofs.Ytgepalpcaphbeaa.MMaps
set_option linter.unusedVariables false
set_option linter.unusedSimpArgs false
set_option maxRecDepth 100000
set_option maxHeartbeats 8000000 in
theorem Resize.calls_nil (s : ByteArray) (n : Int) (w : World) : Calls Try.prog 25 #[.pointer none, .string s, .int .i64 n] w fun e w' => e = .returned (.int .i64 2) ∧ Drawn0 w w' := by
  go_enter Try.func25, Try.ntmps25
  go_wp2_with (go_at_call 20; refine (Units.calls_nil s _).mono ?_; rintro e w1 ⟨rfl, d1⟩)
  go_ret
  exact ⟨rfl, d1⟩
set_option maxHeartbeats 8000000 in
theorem Copy.calls_nil (w : World) : Calls Try.prog 21 #[.pointer none] w fun e w' => e = .returned (.pointer none) ∧ Drawn0 w w' := by
  go_enter Try.func21, Try.ntmps21
  go_wp2
  go_ret
  exact ⟨rfl, Drawn0.refl _⟩
set_option maxHeartbeats 8000000 in
theorem nil_walk (o : Int) (s : ByteArray) (n : Int) (w : World) : Calls Try.prog 7 #[.int .i64 o, .string s, .int .i64 n] w fun e w' => e = .returned (.bool true) ∧ Below w.heap.size w w' := by
  have hk := fun (W : World) => known.calls W
  have hb := Below.refl w.heap.size w
  go_enter Try.func7, Try.ntmps7
  go_wp2_with (first
    | (go_at_call 20; refine (Units.calls_nil s _).mono ?_; rintro e w1 ⟨rfl, d⟩; have b1 := below_go hb hb.size d.below; clear d hb)
    | (go_at_call 15; refine (Free.calls_nil s _).mono ?_; rintro e w2 ⟨rfl, d⟩; have b2 := below_go b1 b1.size d.below; clear d b1)
    | (go_at_call 19; refine (May.calls_nil o _ _).mono ?_; rintro e w3 ⟨rfl, d⟩; have b3 := below_go b2 b2.size d.below; clear d b2)
    | (go_at_call 12; refine (Take.calls_nil o _ _).mono ?_; rintro e w4 ⟨rfl, d⟩; have b4 := below_go b3 b3.size d.below; clear d b3)
    | (go_at_call 11; refine (Give.calls_nil o _).mono ?_; rintro e w5 ⟨rfl, d⟩; have b5 := below_go b4 b4.size d.below; clear d b4)
    | (go_at_call 25; refine (Resize.calls_nil s n _).mono ?_; rintro e w6 ⟨rfl, d⟩; have b6 := below_go b5 b5.size d.below; clear d b5)
    | (go_at_call 14; refine (List.calls_nil _).mono ?_; rintro e w7 ⟨rfl, d⟩; have b7 := below_go b6 b6.size d.below; clear d b6)
    | (go_at_call 21; refine (Copy.calls_nil _).mono ?_; rintro e w8 ⟨rfl, d⟩; have b8 := below_go b7 b7.size d.below; clear d b7)
    | (go_at_call 8; refine (hk _).mono ?_; rintro e w9 ⟨rfl, d⟩; have b9 := below_go b8 b8.size d; clear d b8))
  go_ret
  exact ⟨rfl, b9⟩
end Go.Proofs.Ytgepalpcaphbeaa.QPoolPlays
