/- The law CondNil, walked: for every condition it comes to true. Each theorem names its own conditions. -/
import Derived.Test.YthneeibphelofaaQCondPlaysCondKnown
import Derived.Test.YthneeibphelofaaQCondPlaysCondAny
namespace Go.Proofs.Ythneeibphelofaa.QCondPlays
open Go.RowKit Go.Proofs.Ythneeibphelofaa.PCondPlays Go.Proofs.YthneeibphelofaaW.PrintWords Go.Proofs.YthneeibphelofaaW.PrintLast Go.Proofs.YthneeibphelofaaW.PrintMore
set_option linter.unusedVariables false
set_option linter.unusedSimpArgs false
set_option maxHeartbeats 8000000 in
set_option maxRecDepth 100000 in
theorem nil_walk (c : C) (w : World) : Calls Try.prog 7 #[.agg #[.string c.f0, .int .i64 c.f1]] w fun e w' => e = .returned (.bool true) ∧ Below w.heap.size w w' := by
  have hk := fun (W : World) => known.calls W
  go_enter Try.func7, Try.ntmps7
  go_upto_region 2 with (fail)
  obtain ⟨W, hW⟩ : ∃ W, W = w.alloc (.cells #[.string c.f0, .int .i64 c.f1] 29 (0, 0)) := ⟨_, rfl⟩
  have HW := Aside0.mk (show Below w.heap.size w W by rw [hW]; exact below_alloc (Below.refl _ _) _)
  have kb : W.heap[w.heap.size]? = some (.cells #[.string c.f0, .int .i64 c.f1] 29 (0, 0)) := by rw [hW]; exact blk_new _ _
  rw [← hW]
  clear hW
  have HS : Aside0 (∀ W' : World, Below W.heap.size W W' → W'.cell? ⟨w.heap.size, 0, none⟩ = some (.string c.f0) ∧ W'.cell? ⟨w.heap.size, 1, none⟩ = some (.int .i64 c.f1)) := ⟨fun W' h => ⟨blk_cell (blk_below kb h) 0, blk_cell (blk_below kb h) 1⟩⟩
  clear kb
  have B0 := Below.refl W.heap.size W
  obtain ⟨x0, x1⟩ := HS.out W B0
  go_wp2_with (first | (go_at_call 10; refine (Add.calls_nil c _).mono ?_; rintro e w1 ⟨rfl, b⟩; have B1 := below_go B0 B0.size b; clear b x0 x1; obtain ⟨x0, x1⟩ := HS.out w1 B1) | (go_at_call 16; refine (Drop.calls_nil c _).mono ?_; rintro e w2 ⟨rfl, b⟩; have B2 := below_go B1 B1.size b; clear b x0 x1; obtain ⟨x0, x1⟩ := HS.out w2 B2) | (go_at_call 19; refine (DropAll.calls_nil c.f0 _).mono ?_; rintro e w3 ⟨rfl, b⟩; have B3 := below_go B2 B2.size b; clear b x0 x1; obtain ⟨x0, x1⟩ := HS.out w3 B3) | (go_at_call 14; refine (Has.calls_nil c _).mono ?_; rintro e w4 ⟨rfl, b⟩; have B4 := below_go B3 B3.size b; clear b x0 x1; obtain ⟨x0, x1⟩ := HS.out w4 B4) | (go_at_call 22; refine (Any.calls_nil c.f0 _).mono ?_; rintro e w5 ⟨rfl, b⟩; have B5 := below_go B4 B4.size b; clear b x0 x1; obtain ⟨x0, x1⟩ := HS.out w5 B5) | (go_at_call 13; refine (Clean.calls_nil c.f1 _).mono ?_; rintro e w6 ⟨rfl, b⟩; have B6 := below_go B5 B5.size b; clear b x0 x1; obtain ⟨x0, x1⟩ := HS.out w6 B6) | (go_at_call 12; refine (List.calls_nil _).mono ?_; rintro e w7 ⟨rfl, b⟩; have B7 := below_go B6 B6.size b; clear b x0 x1) | (go_at_call 15; refine (Len.calls_nil _).mono ?_; rintro e w8 ⟨rfl, b⟩; have B8 := below_go B7 B7.size b.below; clear b) | (go_at_call 18; refine (Copy.calls_nil _).mono ?_; rintro e w9 ⟨rfl, b⟩; have B9 := below_go B8 B8.size b; clear b) | (go_at_call 9; refine (hk _).mono ?_; rintro e w10 ⟨rfl, b⟩; have B10 := below_go B9 B9.size b; clear b))
  go_ret
  exact ⟨rfl, HW.out.trans (B10.mono HW.out.size)⟩
end Go.Proofs.Ythneeibphelofaa.QCondPlays
