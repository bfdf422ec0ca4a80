/- This text holds, for Go functions of the given program, Lean functions with the same answers, and proofs that the machine's calls come to these answers; each theorem names its own conditions. It was laid by a program of this session. -/
import Derived.Test.YtpcjbnaggeiaoaaDoorPCalMovedx0
import Derived.Test.YtpcjbnaggeiaoaaDoorPCalMovedx1
import Derived.Test.YtpcjbnaggeiaoaaDoorPCalMovedx4
import Derived.Test.YtpcjbnaggeiaoaaDoorPCalMovedx8
namespace Go.Proofs.YtpcjbnaggeiaoaaDoor.PCalMoved
open Go.RowKit Go.Proofs.YtpcjbnaggeiaoaaDoorW.PrintWords Go.Proofs.YtpcjbnaggeiaoaaDoorW.PrintLast Go.Proofs.YtpcjbnaggeiaoaaDoorW.PrintMore
attribute [local go_sem] max2_int min2_int max_two min_two max_three min_three max_four min_four   -- for this text's walks alone
set_option linter.unusedVariables false
set_option linter.unusedSimpArgs false

-- NOT PRINTED: function 15 (cal_book_in)

/-! ### cal_In: function 9 -/
theorem C_of_block {α : Type} (d : Kd α) {w : World} {g : Nat} {t : TypeId} {cs : Array Value} {xs : List α} (h : w.heap[g]? = some (.cells cs t (0, 0))) (hm : xs.length ≤ 9223372036854775807) (hr : Reps (d.K w) d.sz xs cs.toList) : d.C w (some ⟨g, 0, none⟩) xs.length xs := by
  refine ⟨rfl, hm, fun hn => ⟨_, rfl, fun j p hj => ⟨_, d.K_len (hr.2 j p hj), hr.2 j p hj, fun i u hu => ?_⟩⟩⟩
  have e : (Addr.add ⟨g, 0, none⟩ (j * d.sz + i)) = ⟨g, j * d.sz + i, none⟩ := by simp [Addr.add]; intro a b; omega
  rw [e, blk_cell h]
  have hi : i < d.sz := by
    have h1 := d.K_len (hr.2 j p hj)
    have h2 := (List.getElem?_eq_some_iff.mp hu).1
    omega
  rw [List.getElem?_take, if_pos hi, List.getElem?_drop] at hu
  simpa using hu
theorem one_node {w : World} {g : Nat} {t : TypeId} (n : S31) {A1 : Option Addr} {c1 : Nat} {A2 : Option Addr} {c2 : Nat} (h : w.heap[g]? = some (.cells #[.int .i64 n.f0, .slice A1 n.f1.length c1, .slice A2 n.f2.length c2, .string n.f3] t (0, 0))) (h1 : (Kd.int .i64).C w A1 n.f1.length n.f1) (h1c : n.f1.length ≤ c1) (h2 : k31.C w A2 n.f2.length n.f2) (h2c : n.f2.length ≤ c2) :
    k31.C w (some ⟨g, 0, none⟩) [n].length [n] := C_of_block k31 h (by simp) ((Reps.none _ _).snoc (k31_mk w n h1c h1 h2c h2) rfl)
/-- What open leaves is a book. -/
theorem new_book {l : List S48} {A0 : Option Addr} {c0 : Nat} {w0 w : World} {bb mb : Nat} {met : Int} (hl : Kd.C k48 w0 A0 l.length l) (hlc : l.length ≤ c0) (hlen : l.length ≤ 24) (hg : GOK w0) (hb : Below w0.heap.size w0 w)
    (hbk : w.heap[bb]? = some (.cells #[.slice A0 l.length c0, .map (some mb), .int .i64 met] 58 (0, 0))) (hmp : w.heap[mb]? = some (.map #[] 0)) (h1 : w0.heap.size ≤ bb) (h2 : w0.heap.size ≤ mb) (h3 : bb ≠ mb) : Book l A0 c0 bb mb met w0 w :=
  ⟨hb, h1, h2, h3, hbk, ⟨.map [], [], ⟨#[], 0, hmp, ⟨by simp, MapKept.stamped_empty 0, by simp⟩, Nat.le_refl _, rfl⟩, List.nodup_nil, fun q hq => by simp at hq, fun name f kl _ h => by simp [Go.Maps.has] at h⟩, hl, hlc, hlen, by rw [FF_len]; omega, hg⟩
theorem open_len {k j : Nat} {l : List S48} {day : Int} {ks : List S31} (h : cal_open.l0 k j l day ks 0 = some 0) (hk : 0 < ks.length) : l.length ≤ 24 := by
  cases j with
  | zero => simp [cal_open.l0] at h
  | succ j =>
    rw [cal_open.l0.eq_2, if_pos (by omega), if_pos (by omega)] at h
    by_cases q : (l.length : Int) > 24
    · rw [if_pos q] at h; cases h
    · omega
def cal_In.f (k : Nat) (l : List S48) (a0 : Int) (l1 : List Int) (l2 : List S31) (a3 : ByteArray) (day : Int) : Option (Bool × Int) :=
  (cal_open.l0 k k l day [⟨a0, l1, l2, a3⟩] 0).bind fun r => if r = 0 then (in.f k l ⟨a0, l1, l2, a3⟩ day).bind fun b => some (b, 0) else some (false, r)
theorem cal_In.mono : ∀ l a0 l1 l2 a3 day k, LeO (cal_In.f k l a0 l1 l2 a3 day) (cal_In.f (k + 1) l a0 l1 l2 a3 day) := by
  intro l a0 l1 l2 a3 day k
  unfold cal_In.f
  exact LeO.bind (cal_open.mono_l _ _ _ _ _ _) (fun r => LeO.ite (LeO.bind (in.mono _ _ _ _) (fun _ => LeO.refl _)) (LeO.refl _))
set_option maxHeartbeats 8000000 in
set_option maxRecDepth 100000 in
theorem cal_In.calls (k : Nat) (A0 : Option Addr) (c0 : Nat) (l0 : List (S48)) (a1_0 : Int) (A1_1 : Option Addr) (c1_1 : Nat) (l1_1 : List Int) (A1_2 : Option Addr) (c1_2 : Nat) (l1_2 : List (S31)) (a1_3 : ByteArray) (a2 : Int) (r1 : Bool) (r2 : Int) (w : World) (hr0 : Kd.C k48 w A0 l0.length l0) (hc0 : l0.length ≤ c0) (hr1_1 : Kd.C (Kd.int .i64) w A1_1 l1_1.length l1_1) (hc1_1 : l1_1.length ≤ c1_1) (hr1_2 : Kd.C k31 w A1_2 l1_2.length l1_2) (hc1_2 : l1_2.length ≤ c1_2) (hg : GOK w) (h : cal_In.f k l0 a1_0 l1_1 l1_2 a1_3 a2 = some (r1, r2)) :
    Calls Tryd.prog 9 #[.slice A0 l0.length c0, .agg #[.int .i64 a1_0, .slice A1_1 l1_1.length c1_1, .slice A1_2 l1_2.length c1_2, .string a1_3], .int .i64 a2] w fun e w' => e = .returned (.tuple #[.bool r1, .int .i64 r2]) ∧ Below w.heap.size w w' := by
  unfold cal_In.f at h
  obtain ⟨r, hop, h⟩ := Option.bind_eq_some_iff.mp h
  go_enter Tryd.func9, Tryd.ntmps9
  go_wp2_with (fail)
  obtain ⟨hb, kn, kp⟩ := node_base w (.cells #[.int .i64 a1_0, .slice A1_1 l1_1.length c1_1, .slice A1_2 l1_2.length c1_2, .string a1_3] 31 (0, 0)) (.cells #[.int .i64 a1_0, .slice A1_1 l1_1.length c1_1, .slice A1_2 l1_2.length c1_2, .string a1_3] 31 (0, 0))
  obtain ⟨W, hW⟩ : ∃ W, W = (w.alloc (.cells #[.int .i64 a1_0, .slice A1_1 l1_1.length c1_1, .slice A1_2 l1_2.length c1_2, .string a1_3] 31 (0, 0))).alloc (.cells #[.int .i64 a1_0, .slice A1_1 l1_1.length c1_1, .slice A1_2 l1_2.length c1_2, .string a1_3] 31 (0, 0)) := ⟨_, rfl⟩
  rw [← hW] at hb kn kp ⊢
  clear hW
  have g1 := Kd.C_below hr1_1 hb
  have g2 := Kd.C_below hr1_2 hb
  have g0 := Kd.C_below hr0 hb
  have gg := GOK.below hg hb
  have hone := one_node ⟨a1_0, l1_1, l1_2, a1_3⟩ kp g1 hc1_1 g2 hc1_2
  have hopen := fun (W' : World) (hW : Below W.heap.size W W') => cal_open.calls k k A0 c0 l0 a2 (some ⟨w.heap.size + 1, 0, none⟩) 1 [⟨a1_0, l1_1, l1_2, a1_3⟩] r W' (Kd.C_below g0 hW) hc0 (Kd.C_below hone hW) (by simp) hop
  have HKN := Aside0.mk kn
  have HB := Aside0.mk hb
  have HG := Aside0.mk gg
  have G0 := Aside0.mk g0
  have G1 := Aside0.mk g1
  have G2 := Aside0.mk g2
  clear hr0 hr1_1 hr1_2 hg g0 g1 g2 gg kn kp hb hone
  have HOP := Aside0.mk hop
  clear hop
  have H := Aside0.mk h
  clear h
  refine (hopen _ (Below.refl _ _)).mono ?_
  rintro e w1 ⟨hpost, hb1⟩
  clear hopen
  rcases hpost with ⟨rfl, bb, mb, met, rfl, hbk, hmp, hbb, hmb, hne⟩ | ⟨hr, rfl⟩
  · have h := H.out
    rw [if_pos rfl] at h
    obtain ⟨b, hin, h⟩ := Option.bind_eq_some_iff.mp h
    obtain ⟨rfl, rfl⟩ := Prod.mk.inj (Option.some.inj h)
    clear h
    have hbook := new_book G0.out hc0 (open_len HOP.out (by simp)) HG.out hb1 hbk hmp hbb hmb hne
    have hcall := in.calls k l0 A0 c0 bb mb met W w1 ⟨a1_0, l1_1, l1_2, a1_3⟩ A1_1 c1_1 A1_2 c1_2 a2 b hbook G1.out hc1_1 G2.out hc1_2 hin
    have kn1 := (hb1.block _ (blk_lt HKN.out)).trans HKN.out
    have u0 : w1.cell? ⟨w.heap.size, 0, none⟩ = _ := blk_cell kn1 0
    have u1 : w1.cell? ⟨w.heap.size, 1, none⟩ = _ := blk_cell kn1 1
    have u2 : w1.cell? ⟨w.heap.size, 2, none⟩ = _ := blk_cell kn1 2
    have u3 : w1.cell? ⟨w.heap.size, 3, none⟩ = _ := blk_cell kn1 3
    simp only [List.getElem?_toArray, List.getElem?_cons_zero, List.getElem?_cons_succ] at u0 u1 u2 u3
    have HB1 := Aside0.mk hb1
    have HMB := Aside0.mk hmb
    clear hin hbook hbk hmp hbb hmb hne H HOP kn1 hb1
    go_wp2_with (go_at_call 15; refine hcall.mono ?_; rintro e w2 ⟨rfl, hk2, hm2⟩)
    go_ret2
    exact ⟨rfl, hk2.below (HB.out.trans (HB1.out.mono HB.out.size)) (fun j e => e ▸ (Nat.le_trans HB.out.size HMB.out))⟩
  · have h := H.out
    rw [if_neg hr] at h
    obtain ⟨rfl, rfl⟩ := Prod.mk.inj (Option.some.inj h)
    have hrb : (r != 0) = true := bne_iff_ne.mpr hr
    have HB1 := Aside0.mk hb1
    clear h H hr HOP hb1
    go_wp2
    go_ret2
    exact ⟨rfl, HB.out.trans (HB1.out.mono HB.out.size)⟩

/-! ### dayshiftref01_mod: function 65 -/
def dayshiftref01_mod.f (a0 : Int) (a1 : Int) : Option (Int) := if a1 = 0 then (none) else (if (Int.tmod a0 a1) < 0 then (some (wrap64 ((Int.tmod a0 a1) + a1))) else (some (Int.tmod a0 a1)))
set_option maxHeartbeats 8000000 in
set_option maxRecDepth 100000 in
theorem dayshiftref01_mod.calls (a0 : Int) (a1 : Int) (r : Int) (w : World) (h : dayshiftref01_mod.f a0 a1 = some r) :
    Calls Tryd.prog 65 #[.int .i64 a0, .int .i64 a1] w fun e w' => e = .returned (.int .i64 r) ∧ Drawn0 w w' := by
  have H : (if a1 = 0 then (none) else (if (Int.tmod a0 a1) < 0 then (some (wrap64 ((Int.tmod a0 a1) + a1))) else (some (Int.tmod a0 a1)))) = some r := h
  clear h
  by_cases c3 : a1 = 0
  · rw [if_pos c3] at H
    exact absurd H (by simp)
  · rw [if_neg c3] at H
    have c3b0 : (a1 == 0) = false := beq_eq_false_iff_ne.mpr c3
    have c3b1 : (a1 != 0) = true := bne_iff_ne.mpr c3
    by_cases c4 : (Int.tmod a0 a1) < 0
    · rw [if_pos c4] at H
      have c4b0 : decide ((Int.tmod a0 a1) < 0) = true := decide_eq_true c4
      clear c4
      obtain rfl := Option.some.inj H
      go_enter Tryd.func65, Tryd.ntmps65
      go_wp2
      go_ret
      exact ⟨by first | rfl | (simp; done) | (simp [*]; done), by repeat (first | exact Drawn0.refl _ | apply Drawn0.step)⟩
    · rw [if_neg c4] at H
      have c4b0 : decide ((Int.tmod a0 a1) < 0) = false := decide_eq_false c4
      clear c4
      obtain rfl := Option.some.inj H
      go_enter Tryd.func65, Tryd.ntmps65
      go_wp2
      go_ret
      exact ⟨by first | rfl | (simp; done) | (simp [*]; done), by repeat (first | exact Drawn0.refl _ | apply Drawn0.step)⟩

/-! ### dayshiftref01_Leap: function 55 -/
def dayshiftref01_Leap.f (a0 : Int) : Option (Bool) := (dayshiftref01_mod.f a0 4).bind fun t232 => (if t232 = 0 then ((dayshiftref01_mod.f a0 100).bind fun t233 => (if t233 = 0 then ((dayshiftref01_mod.f a0 400).bind fun t234 => (some (t234 == 0))) else (some true))) else (some false))
set_option maxHeartbeats 8000000 in
set_option maxRecDepth 100000 in
theorem dayshiftref01_Leap.calls (a0 : Int) (r : Bool) (w : World) (h : dayshiftref01_Leap.f a0 = some r) :
    Calls Tryd.prog 55 #[.int .i64 a0] w fun e w' => e = .returned (.bool r) ∧ Drawn0 w w' := by
  have H : ((dayshiftref01_mod.f a0 4).bind fun t232 => (if t232 = 0 then ((dayshiftref01_mod.f a0 100).bind fun t233 => (if t233 = 0 then ((dayshiftref01_mod.f a0 400).bind fun t234 => (some (t234 == 0))) else (some true))) else (some false))) = some r := h
  clear h
  replace H := Option.bind_eq_some_iff.mp H
  obtain ⟨t232, A20, H⟩ := H
  replace H : (if t232 = 0 then ((dayshiftref01_mod.f a0 100).bind fun t233 => (if t233 = 0 then ((dayshiftref01_mod.f a0 400).bind fun t234 => (some (t234 == 0))) else (some true))) else (some false)) = some r := H
  have A2 := Aside0.mk A20
  clear A20
  by_cases c3 : t232 = 0
  · rw [if_pos c3] at H
    have c3b0 : (t232 == 0) = true := beq_iff_eq.mpr c3
    have c3b1 : (t232 != 0) = false := bne_eq_false_iff_eq.mpr c3
    clear c3
    replace H := Option.bind_eq_some_iff.mp H
    obtain ⟨t233, A40, H⟩ := H
    replace H : (if t233 = 0 then ((dayshiftref01_mod.f a0 400).bind fun t234 => (some (t234 == 0))) else (some true)) = some r := H
    have A4 := Aside0.mk A40
    clear A40
    by_cases c5 : t233 = 0
    · rw [if_pos c5] at H
      have c5b0 : (t233 == 0) = true := beq_iff_eq.mpr c5
      have c5b1 : (t233 != 0) = false := bne_eq_false_iff_eq.mpr c5
      clear c5
      replace H := Option.bind_eq_some_iff.mp H
      obtain ⟨t234, A60, H⟩ := H
      replace H : (some (t234 == 0)) = some r := H
      have A6 := Aside0.mk A60
      clear A60
      obtain rfl := Option.some.inj H
      go_enter Tryd.func55, Tryd.ntmps55
      go_wp2_with (first | ((with_reducible refine gate_callee (f := 65) rfl ?_); refine goesL_ (some 4) rfl rfl Tryd.func65 (by kernel_rfl) rfl #[.int .i64 a0, .int .i64 4] rfl (by (try simp only [List.map_toArray, List.map_cons, List.map_nil]); first | done | rfl | (simp only [List.length_drop, List.length_take]; rfl)) ?_; (with_reducible refine (dayshiftref01_mod.calls a0 4 t232 _ A2.out).mono ?_); rintro e w' ⟨rfl, ⟨nd, rfl⟩⟩; refine ⟨_, rfl, ?_⟩) | (go_at_call 65; (with_reducible refine (dayshiftref01_mod.calls a0 100 t233 _ A4.out).mono ?_); rintro e w' ⟨rfl, ⟨nd, rfl⟩⟩) | (go_at_call 65; (with_reducible refine (dayshiftref01_mod.calls a0 400 t234 _ A6.out).mono ?_); rintro e w' ⟨rfl, ⟨nd, rfl⟩⟩))
      go_ret
      exact ⟨by first | rfl | (simp; done) | (simp [*]; done), by repeat (first | exact Drawn0.refl _ | apply Drawn0.step)⟩
    · rw [if_neg c5] at H
      have c5b0 : (t233 == 0) = false := beq_eq_false_iff_ne.mpr c5
      have c5b1 : (t233 != 0) = true := bne_iff_ne.mpr c5
      obtain rfl := Option.some.inj H
      go_enter Tryd.func55, Tryd.ntmps55
      go_wp2_with (first | ((with_reducible refine gate_callee (f := 65) rfl ?_); refine goesL_ (some 4) rfl rfl Tryd.func65 (by kernel_rfl) rfl #[.int .i64 a0, .int .i64 4] rfl (by (try simp only [List.map_toArray, List.map_cons, List.map_nil]); first | done | rfl | (simp only [List.length_drop, List.length_take]; rfl)) ?_; (with_reducible refine (dayshiftref01_mod.calls a0 4 t232 _ A2.out).mono ?_); rintro e w' ⟨rfl, ⟨nd, rfl⟩⟩; refine ⟨_, rfl, ?_⟩) | (go_at_call 65; (with_reducible refine (dayshiftref01_mod.calls a0 100 t233 _ A4.out).mono ?_); rintro e w' ⟨rfl, ⟨nd, rfl⟩⟩))
      go_ret
      exact ⟨by first | rfl | (simp; done) | (simp [*]; done), by repeat (first | exact Drawn0.refl _ | apply Drawn0.step)⟩
  · rw [if_neg c3] at H
    have c3b0 : (t232 == 0) = false := beq_eq_false_iff_ne.mpr c3
    have c3b1 : (t232 != 0) = true := bne_iff_ne.mpr c3
    obtain rfl := Option.some.inj H
    go_enter Tryd.func55, Tryd.ntmps55
    go_wp2_with (first | ((with_reducible refine gate_callee (f := 65) rfl ?_); refine goesL_ (some 4) rfl rfl Tryd.func65 (by kernel_rfl) rfl #[.int .i64 a0, .int .i64 4] rfl (by (try simp only [List.map_toArray, List.map_cons, List.map_nil]); first | done | rfl | (simp only [List.length_drop, List.length_take]; rfl)) ?_; (with_reducible refine (dayshiftref01_mod.calls a0 4 t232 _ A2.out).mono ?_); rintro e w' ⟨rfl, ⟨nd, rfl⟩⟩; refine ⟨_, rfl, ?_⟩))
    go_ret
    exact ⟨by first | rfl | (simp; done) | (simp [*]; done), by repeat (first | exact Drawn0.refl _ | apply Drawn0.step)⟩

/-! ### dayshiftref01_Len: function 44 -/
mutual
def dayshiftref01_Len.j0 : Nat → Int → Int → Bool → Option (Int)
  | 0, _, _, _ => none
  | k + 1, x0, x5, x6 => if x6 = true then (some 31) else (if x5 = 4 then (dayshiftref01_Len.j1 k x0 x5 (x5 == 4)) else (if x5 = 6 then (dayshiftref01_Len.j1 k x0 x5 (x5 == 6)) else (if x5 = 9 then (dayshiftref01_Len.j1 k x0 x5 (x5 == 9)) else (dayshiftref01_Len.j1 k x0 x5 (x5 == 11)))))
def dayshiftref01_Len.j1 : Nat → Int → Int → Bool → Option (Int)
  | 0, _, _, _ => none
  | k + 1, x0, x5, x14 => if x14 = true then (some 30) else (if x5 = 2 then ((dayshiftref01_Leap.f x0).bind fun t235 => (if t235 = true then (some 29) else (some 28))) else (some 0))
end
def dayshiftref01_Len.f (k : Nat) (a0 : Int) (a1 : Int) : Option (Int) := if a1 = 1 then (dayshiftref01_Len.j0 k a0 a1 (a1 == 1)) else (if a1 = 3 then (dayshiftref01_Len.j0 k a0 a1 (a1 == 3)) else (if a1 = 5 then (dayshiftref01_Len.j0 k a0 a1 (a1 == 5)) else (if a1 = 7 then (dayshiftref01_Len.j0 k a0 a1 (a1 == 7)) else (if a1 = 8 then (dayshiftref01_Len.j0 k a0 a1 (a1 == 8)) else (if a1 = 10 then (dayshiftref01_Len.j0 k a0 a1 (a1 == 10)) else (dayshiftref01_Len.j0 k a0 a1 (a1 == 12)))))))
theorem dayshiftref01_Len.mono_l : ∀ k, (∀ y0 y1 y2, LeO (dayshiftref01_Len.j0 k y0 y1 y2) (dayshiftref01_Len.j0 (k + 1) y0 y1 y2)) ∧ (∀ y0 y1 y2, LeO (dayshiftref01_Len.j1 k y0 y1 y2) (dayshiftref01_Len.j1 (k + 1) y0 y1 y2))
  | 0 => ⟨fun _ _ _ r h => by simp [dayshiftref01_Len.j0] at h, fun _ _ _ r h => by simp [dayshiftref01_Len.j1] at h⟩
  | k + 1 => by
    obtain ⟨ih0, ih1⟩ := dayshiftref01_Len.mono_l k
    refine ⟨?_, ?_⟩
    · intro y0 y1 y2
      unfold dayshiftref01_Len.j0
      repeat' first
      | (with_reducible exact ih0 _ _ _)
      | (with_reducible exact ih1 _ _ _)
      | (with_reducible exact LeO.refl _)
      | (with_reducible exact LeO.none _)
      | (with_reducible refine LeO.ite ?_ ?_)
      | (with_reducible refine LeO.bind ?_ (fun _ => ?_))
      | exact ih0 _ _ _
      | exact ih1 _ _ _
      | exact LeO.none _
      | refine LeO.ite ?_ ?_
      | refine LeO.bind ?_ (fun _ => ?_)
    · intro y0 y1 y2
      unfold dayshiftref01_Len.j1
      repeat' first
      | (with_reducible exact ih0 _ _ _)
      | (with_reducible exact ih1 _ _ _)
      | (with_reducible exact LeO.refl _)
      | (with_reducible exact LeO.none _)
      | (with_reducible refine LeO.ite ?_ ?_)
      | (with_reducible refine LeO.bind ?_ (fun _ => ?_))
      | exact ih0 _ _ _
      | exact ih1 _ _ _
      | exact LeO.none _
      | refine LeO.ite ?_ ?_
      | refine LeO.bind ?_ (fun _ => ?_)
theorem dayshiftref01_Len.mono : ∀ a0 a1 k, LeO (dayshiftref01_Len.f k a0 a1) (dayshiftref01_Len.f (k + 1) a0 a1) := by
  intro a0 a1 k
  obtain ⟨ih0, ih1⟩ := dayshiftref01_Len.mono_l k
  unfold dayshiftref01_Len.f
  repeat' first
      | (with_reducible exact ih0 _ _ _)
      | (with_reducible exact ih1 _ _ _)
      | (with_reducible exact LeO.refl _)
      | (with_reducible exact LeO.none _)
      | (with_reducible refine LeO.ite ?_ ?_)
      | (with_reducible refine LeO.bind ?_ (fun _ => ?_))
      | exact ih0 _ _ _
      | exact ih1 _ _ _
      | exact LeO.none _
      | refine LeO.ite ?_ ?_
      | refine LeO.bind ?_ (fun _ => ?_)
set_option maxHeartbeats 8000000 in
set_option maxRecDepth 100000 in
theorem dayshiftref01_Len.calls (k : Nat) (a0 : Int) (a1 : Int) (r : Int) (w : World) (h : dayshiftref01_Len.f k a0 a1 = some r) :
    Calls Tryd.prog 44 #[.int .i64 a0, .int .i64 a1] w fun e w' => e = .returned (.int .i64 r) ∧ Drawn0 w w' := by
  have H : (if a1 = 1 then (dayshiftref01_Len.j0 k a0 a1 (a1 == 1)) else (if a1 = 3 then (dayshiftref01_Len.j0 k a0 a1 (a1 == 3)) else (if a1 = 5 then (dayshiftref01_Len.j0 k a0 a1 (a1 == 5)) else (if a1 = 7 then (dayshiftref01_Len.j0 k a0 a1 (a1 == 7)) else (if a1 = 8 then (dayshiftref01_Len.j0 k a0 a1 (a1 == 8)) else (if a1 = 10 then (dayshiftref01_Len.j0 k a0 a1 (a1 == 10)) else (dayshiftref01_Len.j0 k a0 a1 (a1 == 12)))))))) = some r := h
  clear h
  have HC3 := Aside0.mk H
  clear H
  go_enter Tryd.func44, Tryd.ntmps44
  go_upto_if 6 with (fail)
  go_cut [6] (fun v6 wc => ∃ (kq : Nat) (x6_2 : Bool), v6 = .bool x6_2 ∧ Aside0 (dayshiftref01_Len.j0 kq a0 a1 x6_2 = some r) ∧ Aside0 (kq ≤ k) ∧ Drawn0 w wc)
  case first =>
    have H := HC3.out
    clear HC3
    by_cases c4 : a1 = 1
    · rw [if_pos c4] at H
      have c4b0 : (a1 == 1) = true := beq_iff_eq.mpr c4
      have c4b1 : (a1 != 1) = false := bne_eq_false_iff_eq.mpr c4
      clear c4
      (first | rw [c4b0] | (simp only [i64_w, i32_w]; rw [c4b0]) | skip)
      have H' := Aside0.mk H
      clear H
      go_wp2
      go_meet
      case rel => exact ⟨_, ((a1 == 1)), (by first | rfl | (simp; done) | (simp [*]; done)), H', ⟨by first | omega | exact Nat.le_refl _⟩, by repeat (first | exact Drawn0.refl _ | apply Drawn0.step)⟩
    · rw [if_neg c4] at H
      have c4b0 : (a1 == 1) = false := beq_eq_false_iff_ne.mpr c4
      have c4b1 : (a1 != 1) = true := bne_iff_ne.mpr c4
      (first | rw [c4b0] | (simp only [i64_w, i32_w]; rw [c4b0]) | skip)
      by_cases c5 : a1 = 3
      · rw [if_pos c5] at H
        have c5b0 : (a1 == 3) = true := beq_iff_eq.mpr c5
        have c5b1 : (a1 != 3) = false := bne_eq_false_iff_eq.mpr c5
        clear c5
        have H' := Aside0.mk H
        clear H
        go_wp2
        go_meet
        case rel => exact ⟨_, ((a1 == 3)), (by first | rfl | (simp; done) | (simp [*]; done)), H', ⟨by first | omega | exact Nat.le_refl _⟩, by repeat (first | exact Drawn0.refl _ | apply Drawn0.step)⟩
      · rw [if_neg c5] at H
        have c5b0 : (a1 == 3) = false := beq_eq_false_iff_ne.mpr c5
        have c5b1 : (a1 != 3) = true := bne_iff_ne.mpr c5
        by_cases c6 : a1 = 5
        · rw [if_pos c6] at H
          have c6b0 : (a1 == 5) = true := beq_iff_eq.mpr c6
          have c6b1 : (a1 != 5) = false := bne_eq_false_iff_eq.mpr c6
          clear c6
          have H' := Aside0.mk H
          clear H
          go_wp2
          go_meet
          case rel => exact ⟨_, ((a1 == 5)), (by first | rfl | (simp; done) | (simp [*]; done)), H', ⟨by first | omega | exact Nat.le_refl _⟩, by repeat (first | exact Drawn0.refl _ | apply Drawn0.step)⟩
        · rw [if_neg c6] at H
          have c6b0 : (a1 == 5) = false := beq_eq_false_iff_ne.mpr c6
          have c6b1 : (a1 != 5) = true := bne_iff_ne.mpr c6
          by_cases c7 : a1 = 7
          · rw [if_pos c7] at H
            have c7b0 : (a1 == 7) = true := beq_iff_eq.mpr c7
            have c7b1 : (a1 != 7) = false := bne_eq_false_iff_eq.mpr c7
            clear c7
            have H' := Aside0.mk H
            clear H
            go_wp2
            go_meet
            case rel => exact ⟨_, ((a1 == 7)), (by first | rfl | (simp; done) | (simp [*]; done)), H', ⟨by first | omega | exact Nat.le_refl _⟩, by repeat (first | exact Drawn0.refl _ | apply Drawn0.step)⟩
          · rw [if_neg c7] at H
            have c7b0 : (a1 == 7) = false := beq_eq_false_iff_ne.mpr c7
            have c7b1 : (a1 != 7) = true := bne_iff_ne.mpr c7
            by_cases c8 : a1 = 8
            · rw [if_pos c8] at H
              have c8b0 : (a1 == 8) = true := beq_iff_eq.mpr c8
              have c8b1 : (a1 != 8) = false := bne_eq_false_iff_eq.mpr c8
              clear c8
              have H' := Aside0.mk H
              clear H
              go_wp2
              go_meet
              case rel => exact ⟨_, ((a1 == 8)), (by first | rfl | (simp; done) | (simp [*]; done)), H', ⟨by first | omega | exact Nat.le_refl _⟩, by repeat (first | exact Drawn0.refl _ | apply Drawn0.step)⟩
            · rw [if_neg c8] at H
              have c8b0 : (a1 == 8) = false := beq_eq_false_iff_ne.mpr c8
              have c8b1 : (a1 != 8) = true := bne_iff_ne.mpr c8
              by_cases c9 : a1 = 10
              · rw [if_pos c9] at H
                have c9b0 : (a1 == 10) = true := beq_iff_eq.mpr c9
                have c9b1 : (a1 != 10) = false := bne_eq_false_iff_eq.mpr c9
                clear c9
                have H' := Aside0.mk H
                clear H
                go_wp2
                go_meet
                case rel => exact ⟨_, ((a1 == 10)), (by first | rfl | (simp; done) | (simp [*]; done)), H', ⟨by first | omega | exact Nat.le_refl _⟩, by repeat (first | exact Drawn0.refl _ | apply Drawn0.step)⟩
              · rw [if_neg c9] at H
                have c9b0 : (a1 == 10) = false := beq_eq_false_iff_ne.mpr c9
                have c9b1 : (a1 != 10) = true := bne_iff_ne.mpr c9
                have H' := Aside0.mk H
                clear H
                go_wp2
                go_meet
                case rel => exact ⟨_, ((a1 == 12)), (by first | rfl | (simp; done) | (simp [*]; done)), H', ⟨by first | omega | exact Nat.le_refl _⟩, by repeat (first | exact Drawn0.refl _ | apply Drawn0.step)⟩
  case rest =>
    clear HC3
    try clear p2
    try clear c4
    try clear c4b0
    try clear c4b1
    try clear c5
    try clear c5b0
    try clear c5b1
    try clear c6
    try clear c6b0
    try clear c6b1
    try clear c7
    try clear c7b0
    try clear c7b1
    try clear c8
    try clear c8b0
    try clear c8b1
    try clear c9
    try clear c9b0
    try clear c9b1
    obtain ⟨kq, x6_2, rfl, HA, HJ2, ⟨mc2, rfl⟩⟩ := hcut
    cases kq with
    | zero => exact absurd HA.out (by simp [dayshiftref01_Len.j0])
    | succ kj2 =>
      have H := HA.out
      clear HA
      simp only [dayshiftref01_Len.j0] at H
      by_cases c10 : x6_2 = true
      · subst c10
        have H1 : (some 31) = some r := by rw [if_pos rfl] at H; exact H
        clear H
        have H := H1
        clear H1
        obtain rfl := Option.some.inj H
        go_wp2
        go_ret
        exact ⟨by first | rfl | (simp; done) | (simp [*]; done), by repeat (first | exact Drawn0.refl _ | apply Drawn0.step)⟩
      · replace c10 := Bool.eq_false_iff.mpr c10
        subst c10
        have H1 : (if a1 = 4 then (dayshiftref01_Len.j1 kj2 a0 a1 (a1 == 4)) else (if a1 = 6 then (dayshiftref01_Len.j1 kj2 a0 a1 (a1 == 6)) else (if a1 = 9 then (dayshiftref01_Len.j1 kj2 a0 a1 (a1 == 9)) else (dayshiftref01_Len.j1 kj2 a0 a1 (a1 == 11))))) = some r := by rw [if_neg (show ¬ (false = true) by decide)] at H; exact H
        clear H
        have H := H1
        clear H1
        have HC11 := Aside0.mk H
        clear H
        go_upto_if 14 with (fail)
        go_cut [14] (fun v14 wc => ∃ (kq : Nat) (x14_10 : Bool), v14 = .bool x14_10 ∧ Aside0 (dayshiftref01_Len.j1 kq a0 a1 x14_10 = some r) ∧ Aside0 (kq ≤ kj2) ∧ Drawn0 w wc)
        case first =>
          have H := HC11.out
          clear HC11
          by_cases c12 : a1 = 4
          · rw [if_pos c12] at H
            have c12b0 : (a1 == 4) = true := beq_iff_eq.mpr c12
            have c12b1 : (a1 != 4) = false := bne_eq_false_iff_eq.mpr c12
            clear c12
            (first | rw [c12b0] | (simp only [i64_w, i32_w]; rw [c12b0]) | skip)
            have H' := Aside0.mk H
            clear H
            go_wp2
            go_meet
            case rel => exact ⟨_, ((a1 == 4)), (by first | rfl | (simp; done) | (simp [*]; done)), H', ⟨by have := HJ2.out; first | omega | exact Nat.le_refl _⟩, by repeat (first | exact Drawn0.refl _ | apply Drawn0.step)⟩
          · rw [if_neg c12] at H
            have c12b0 : (a1 == 4) = false := beq_eq_false_iff_ne.mpr c12
            have c12b1 : (a1 != 4) = true := bne_iff_ne.mpr c12
            (first | rw [c12b0] | (simp only [i64_w, i32_w]; rw [c12b0]) | skip)
            by_cases c13 : a1 = 6
            · rw [if_pos c13] at H
              have c13b0 : (a1 == 6) = true := beq_iff_eq.mpr c13
              have c13b1 : (a1 != 6) = false := bne_eq_false_iff_eq.mpr c13
              clear c13
              have H' := Aside0.mk H
              clear H
              go_wp2
              go_meet
              case rel => exact ⟨_, ((a1 == 6)), (by first | rfl | (simp; done) | (simp [*]; done)), H', ⟨by have := HJ2.out; first | omega | exact Nat.le_refl _⟩, by repeat (first | exact Drawn0.refl _ | apply Drawn0.step)⟩
            · rw [if_neg c13] at H
              have c13b0 : (a1 == 6) = false := beq_eq_false_iff_ne.mpr c13
              have c13b1 : (a1 != 6) = true := bne_iff_ne.mpr c13
              by_cases c14 : a1 = 9
              · rw [if_pos c14] at H
                have c14b0 : (a1 == 9) = true := beq_iff_eq.mpr c14
                have c14b1 : (a1 != 9) = false := bne_eq_false_iff_eq.mpr c14
                clear c14
                have H' := Aside0.mk H
                clear H
                go_wp2
                go_meet
                case rel => exact ⟨_, ((a1 == 9)), (by first | rfl | (simp; done) | (simp [*]; done)), H', ⟨by have := HJ2.out; first | omega | exact Nat.le_refl _⟩, by repeat (first | exact Drawn0.refl _ | apply Drawn0.step)⟩
              · rw [if_neg c14] at H
                have c14b0 : (a1 == 9) = false := beq_eq_false_iff_ne.mpr c14
                have c14b1 : (a1 != 9) = true := bne_iff_ne.mpr c14
                have H' := Aside0.mk H
                clear H
                go_wp2
                go_meet
                case rel => exact ⟨_, ((a1 == 11)), (by first | rfl | (simp; done) | (simp [*]; done)), H', ⟨by have := HJ2.out; first | omega | exact Nat.le_refl _⟩, by repeat (first | exact Drawn0.refl _ | apply Drawn0.step)⟩
        case rest =>
          clear HC11
          try clear c1
          try clear c2
          try clear p2
          try clear c4
          try clear c4b0
          try clear c4b1
          try clear c5
          try clear c5b0
          try clear c5b1
          try clear c6
          try clear c6b0
          try clear c6b1
          try clear c7
          try clear c7b0
          try clear c7b1
          try clear c8
          try clear c8b0
          try clear c8b1
          try clear c9
          try clear c9b0
          try clear c9b1
          try clear c10
          try clear c12
          try clear c12b0
          try clear c12b1
          try clear c13
          try clear c13b0
          try clear c13b1
          try clear c14
          try clear c14b0
          try clear c14b1
          try clear p2
          obtain ⟨kq, x14_10, rfl, HA, HJ10, ⟨mc10, rfl⟩⟩ := hcut
          cases kq with
          | zero => exact absurd HA.out (by simp [dayshiftref01_Len.j1])
          | succ kj10 =>
            have H := HA.out
            clear HA
            simp only [dayshiftref01_Len.j1] at H
            by_cases c15 : x14_10 = true
            · subst c15
              have H1 : (some 30) = some r := by rw [if_pos rfl] at H; exact H
              clear H
              have H := H1
              clear H1
              obtain rfl := Option.some.inj H
              go_wp2
              go_ret
              exact ⟨by first | rfl | (simp; done) | (simp [*]; done), by repeat (first | exact Drawn0.refl _ | apply Drawn0.step)⟩
            · replace c15 := Bool.eq_false_iff.mpr c15
              subst c15
              have H1 : (if a1 = 2 then ((dayshiftref01_Leap.f a0).bind fun t235 => (if t235 = true then (some 29) else (some 28))) else (some 0)) = some r := by rw [if_neg (show ¬ (false = true) by decide)] at H; exact H
              clear H
              have H := H1
              clear H1
              by_cases c16 : a1 = 2
              · rw [if_pos c16] at H
                have c16b0 : (a1 == 2) = true := beq_iff_eq.mpr c16
                have c16b1 : (a1 != 2) = false := bne_eq_false_iff_eq.mpr c16
                clear c16
                replace H := Option.bind_eq_some_iff.mp H
                obtain ⟨t235, A170, H⟩ := H
                replace H : (if t235 = true then (some 29) else (some 28)) = some r := H
                have A17 := Aside0.mk A170
                clear A170
                by_cases c18 : t235 = true
                · subst c18
                  have H1 : (some 29) = some r := by rw [if_pos rfl] at H; exact H
                  clear H
                  have H := H1
                  clear H1
                  obtain rfl := Option.some.inj H
                  go_wp2_with (first | ((with_reducible refine gate_callee (f := 55) rfl ?_); refine goesL_ (some 22) rfl rfl Tryd.func55 (by kernel_rfl) rfl #[.int .i64 a0] rfl (by (try simp only [List.map_toArray, List.map_cons, List.map_nil]); first | done | rfl | (simp only [List.length_drop, List.length_take]; rfl)) ?_; (with_reducible refine (dayshiftref01_Leap.calls a0 true _ A17.out).mono ?_); rintro e w' ⟨rfl, ⟨nd, rfl⟩⟩; refine ⟨_, rfl, ?_⟩))
                  go_ret
                  exact ⟨by first | rfl | (simp; done) | (simp [*]; done), by repeat (first | exact Drawn0.refl _ | apply Drawn0.step)⟩
                · replace c18 := Bool.eq_false_iff.mpr c18
                  subst c18
                  have H1 : (some 28) = some r := by rw [if_neg (show ¬ (false = true) by decide)] at H; exact H
                  clear H
                  have H := H1
                  clear H1
                  obtain rfl := Option.some.inj H
                  go_wp2_with (first | ((with_reducible refine gate_callee (f := 55) rfl ?_); refine goesL_ (some 22) rfl rfl Tryd.func55 (by kernel_rfl) rfl #[.int .i64 a0] rfl (by (try simp only [List.map_toArray, List.map_cons, List.map_nil]); first | done | rfl | (simp only [List.length_drop, List.length_take]; rfl)) ?_; (with_reducible refine (dayshiftref01_Leap.calls a0 false _ A17.out).mono ?_); rintro e w' ⟨rfl, ⟨nd, rfl⟩⟩; refine ⟨_, rfl, ?_⟩))
                  go_ret
                  exact ⟨by first | rfl | (simp; done) | (simp [*]; done), by repeat (first | exact Drawn0.refl _ | apply Drawn0.step)⟩
              · rw [if_neg c16] at H
                have c16b0 : (a1 == 2) = false := beq_eq_false_iff_ne.mpr c16
                have c16b1 : (a1 != 2) = true := bne_iff_ne.mpr c16
                obtain rfl := Option.some.inj H
                go_wp2
                go_ret
                exact ⟨by first | rfl | (simp; done) | (simp [*]; done), by repeat (first | exact Drawn0.refl _ | apply Drawn0.step)⟩

/-! ### dayshiftref01_ahead: function 45 -/
def dayshiftref01_ahead.f (a0 : Int) : Option (Int) := some (wrap64 ((wrap64 ((wrap64 ((wrap64 (365 * (wrap64 (a0 - 1)))) + (wrap64 (Int.tdiv (wrap64 (a0 - 1)) 4)))) - (wrap64 (Int.tdiv (wrap64 (a0 - 1)) 100)))) + (wrap64 (Int.tdiv (wrap64 (a0 - 1)) 400))))
set_option maxHeartbeats 8000000 in
set_option maxRecDepth 100000 in
theorem dayshiftref01_ahead.calls (a0 : Int) (r : Int) (w : World) (h : dayshiftref01_ahead.f a0 = some r) :
    Calls Tryd.prog 45 #[.int .i64 a0] w fun e w' => e = .returned (.int .i64 r) ∧ Drawn0 w w' := by
  have H : (some (wrap64 ((wrap64 ((wrap64 ((wrap64 (365 * (wrap64 (a0 - 1)))) + (wrap64 (Int.tdiv (wrap64 (a0 - 1)) 4)))) - (wrap64 (Int.tdiv (wrap64 (a0 - 1)) 100)))) + (wrap64 (Int.tdiv (wrap64 (a0 - 1)) 400))))) = some r := h
  clear h
  obtain rfl := Option.some.inj H
  go_enter Tryd.func45, Tryd.ntmps45
  go_wp2
  go_ret
  exact ⟨by first | rfl | (simp; done) | (simp [*]; done), by repeat (first | exact Drawn0.refl _ | apply Drawn0.step)⟩

/-! ### dayshiftref01_Days: function 27 -/
mutual
def dayshiftref01_Days.j0 : Nat → Int → Int → Int → Bool → Option (Int × Int)
  | 0, _, _, _, _ => none
  | k + 1, x0, x1, x2, x26 => if x26 = true then (some (0, 6)) else ((dayshiftref01_ahead.f x0).bind fun t237 => (dayshiftref01_Days.l0 k x0 x1 (wrap64 (t237 + x2)) 1))
def dayshiftref01_Days.l0 : Nat → Int → Int → Int → Int → Option (Int × Int)
  | 0, _, _, _, _ => none
  | k + 1, x0, x1, x8, x9 => if x9 < x1 then ((dayshiftref01_Len.f k x0 x9).bind fun t238 => (dayshiftref01_Days.l0 k x0 x1 (wrap64 (x8 + t238)) (wrap64 (x9 + 1)))) else (some (x8, 0))
end
def dayshiftref01_Days.f (k : Nat) (a0 : Int) (a1 : Int) (a2 : Int) : Option (Int × Int) := if a0 < 1 then (dayshiftref01_Days.j0 k a0 a1 a2 true) else (if a0 > 9999 then (dayshiftref01_Days.j0 k a0 a1 a2 true) else (if a2 < 1 then (dayshiftref01_Days.j0 k a0 a1 a2 true) else ((dayshiftref01_Len.f k a0 a1).bind fun t236 => (dayshiftref01_Days.j0 k a0 a1 a2 (decide (a2 > t236))))))
theorem dayshiftref01_Days.mono_l : ∀ k, (∀ y0 y1 y2 y3, LeO (dayshiftref01_Days.j0 k y0 y1 y2 y3) (dayshiftref01_Days.j0 (k + 1) y0 y1 y2 y3)) ∧ (∀ y0 y1 y2 y3, LeO (dayshiftref01_Days.l0 k y0 y1 y2 y3) (dayshiftref01_Days.l0 (k + 1) y0 y1 y2 y3))
  | 0 => ⟨fun _ _ _ _ r h => by simp [dayshiftref01_Days.j0] at h, fun _ _ _ _ r h => by simp [dayshiftref01_Days.l0] at h⟩
  | k + 1 => by
    obtain ⟨ih0, ih1⟩ := dayshiftref01_Days.mono_l k
    refine ⟨?_, ?_⟩
    · intro y0 y1 y2 y3
      unfold dayshiftref01_Days.j0
      repeat' first
      | (with_reducible exact ih0 _ _ _ _)
      | (with_reducible exact ih1 _ _ _ _)
      | (with_reducible exact dayshiftref01_Len.mono _ _ _)
      | (with_reducible exact LeO.refl _)
      | (with_reducible exact LeO.none _)
      | (with_reducible refine LeO.ite ?_ ?_)
      | (with_reducible refine LeO.bind ?_ (fun _ => ?_))
      | exact ih0 _ _ _ _
      | exact ih1 _ _ _ _
      | exact dayshiftref01_Len.mono _ _ _
      | exact LeO.none _
      | refine LeO.ite ?_ ?_
      | refine LeO.bind ?_ (fun _ => ?_)
    · intro y0 y1 y2 y3
      unfold dayshiftref01_Days.l0
      repeat' first
      | (with_reducible exact ih0 _ _ _ _)
      | (with_reducible exact ih1 _ _ _ _)
      | (with_reducible exact dayshiftref01_Len.mono _ _ _)
      | (with_reducible exact LeO.refl _)
      | (with_reducible exact LeO.none _)
      | (with_reducible refine LeO.ite ?_ ?_)
      | (with_reducible refine LeO.bind ?_ (fun _ => ?_))
      | exact ih0 _ _ _ _
      | exact ih1 _ _ _ _
      | exact dayshiftref01_Len.mono _ _ _
      | exact LeO.none _
      | refine LeO.ite ?_ ?_
      | refine LeO.bind ?_ (fun _ => ?_)
theorem dayshiftref01_Days.mono : ∀ a0 a1 a2 k, LeO (dayshiftref01_Days.f k a0 a1 a2) (dayshiftref01_Days.f (k + 1) a0 a1 a2) := by
  intro a0 a1 a2 k
  obtain ⟨ih0, ih1⟩ := dayshiftref01_Days.mono_l k
  unfold dayshiftref01_Days.f
  repeat' first
      | (with_reducible exact ih0 _ _ _ _)
      | (with_reducible exact ih1 _ _ _ _)
      | (with_reducible exact dayshiftref01_Len.mono _ _ _)
      | (with_reducible exact LeO.refl _)
      | (with_reducible exact LeO.none _)
      | (with_reducible refine LeO.ite ?_ ?_)
      | (with_reducible refine LeO.bind ?_ (fun _ => ?_))
      | exact ih0 _ _ _ _
      | exact ih1 _ _ _ _
      | exact dayshiftref01_Len.mono _ _ _
      | exact LeO.none _
      | refine LeO.ite ?_ ?_
      | refine LeO.bind ?_ (fun _ => ?_)
set_option maxHeartbeats 8000000 in
set_option maxRecDepth 100000 in
theorem dayshiftref01_Days.calls (k : Nat) (a0 : Int) (a1 : Int) (a2 : Int) (r1 : Int) (r2 : Int) (w : World) (h : dayshiftref01_Days.f k a0 a1 a2 = some (r1, r2)) :
    Calls Tryd.prog 27 #[.int .i64 a0, .int .i64 a1, .int .i64 a2] w fun e w' => e = .returned (.tuple #[.int .i64 r1, .int .i64 r2]) ∧ Drawn0 w w' := by
  have H : (if a0 < 1 then (dayshiftref01_Days.j0 k a0 a1 a2 true) else (if a0 > 9999 then (dayshiftref01_Days.j0 k a0 a1 a2 true) else (if a2 < 1 then (dayshiftref01_Days.j0 k a0 a1 a2 true) else ((dayshiftref01_Len.f k a0 a1).bind fun t236 => (dayshiftref01_Days.j0 k a0 a1 a2 (decide (a2 > t236))))))) = some (r1, r2) := h
  clear h
  have HC4 := Aside0.mk H
  clear H
  go_enter Tryd.func27, Tryd.ntmps27
  go_upto_region 1 with (fail)
  go_cut [26] (fun v26 wc => ∃ (kq : Nat) (x26_3 : Bool), v26 = .bool x26_3 ∧ Aside0 (dayshiftref01_Days.j0 kq a0 a1 a2 x26_3 = some (r1, r2)) ∧ Aside0 (kq ≤ k) ∧ Drawn0 w wc)
  case first =>
    have H := HC4.out
    clear HC4
    by_cases c5 : a0 < 1
    · rw [if_pos c5] at H
      have c5b0 : decide (a0 < 1) = true := decide_eq_true c5
      clear c5
      (first | rw [c5b0] | (simp only [i64_w, i32_w]; rw [c5b0]) | skip)
      have H' := Aside0.mk H
      clear H
      go_wp2
      go_meet
      case rel => exact ⟨_, (true), (by first | rfl | (simp; done) | (simp [*]; done)), H', ⟨by first | omega | exact Nat.le_refl _⟩, by repeat (first | exact Drawn0.refl _ | apply Drawn0.step)⟩
    · rw [if_neg c5] at H
      have c5b0 : decide (a0 < 1) = false := decide_eq_false c5
      clear c5
      (first | rw [c5b0] | (simp only [i64_w, i32_w]; rw [c5b0]) | skip)
      by_cases c6 : a0 > 9999
      · rw [if_pos c6] at H
        have c6b0 : decide (9999 < a0) = true := decide_eq_true c6
        clear c6
        have H' := Aside0.mk H
        clear H
        go_wp2
        go_meet
        case rel => exact ⟨_, (true), (by first | rfl | (simp; done) | (simp [*]; done)), H', ⟨by first | omega | exact Nat.le_refl _⟩, by repeat (first | exact Drawn0.refl _ | apply Drawn0.step)⟩
      · rw [if_neg c6] at H
        have c6b0 : decide (9999 < a0) = false := decide_eq_false c6
        clear c6
        by_cases c7 : a2 < 1
        · rw [if_pos c7] at H
          have c7b0 : decide (a2 < 1) = true := decide_eq_true c7
          clear c7
          have H' := Aside0.mk H
          clear H
          go_wp2
          go_meet
          case rel => exact ⟨_, (true), (by first | rfl | (simp; done) | (simp [*]; done)), H', ⟨by first | omega | exact Nat.le_refl _⟩, by repeat (first | exact Drawn0.refl _ | apply Drawn0.step)⟩
        · rw [if_neg c7] at H
          have c7b0 : decide (a2 < 1) = false := decide_eq_false c7
          clear c7
          replace H := Option.bind_eq_some_iff.mp H
          obtain ⟨t236, A80, H⟩ := H
          replace H : (dayshiftref01_Days.j0 k a0 a1 a2 (decide (a2 > t236))) = some (r1, r2) := H
          have A8 := Aside0.mk A80
          clear A80
          have H' := Aside0.mk H
          clear H
          go_wp2_with (first | (go_at_call 44; (with_reducible refine (dayshiftref01_Len.calls k a0 a1 t236 _ A8.out).mono ?_); rintro e w' ⟨rfl, ⟨nd, rfl⟩⟩))
          go_meet
          case rel => exact ⟨_, (decide (a2 > t236)), (by first | rfl | (simp; done) | (simp [*]; done)), H', ⟨by first | omega | exact Nat.le_refl _⟩, by repeat (first | exact Drawn0.refl _ | apply Drawn0.step)⟩
  case rest =>
    clear HC4
    try clear c2
    try clear p2
    try clear c5
    try clear c5b0
    try clear c6
    try clear c6b0
    try clear c7
    try clear c7b0
    obtain ⟨kq, x26_3, rfl, HA, HJ3, ⟨mc3, rfl⟩⟩ := hcut
    cases kq with
    | zero => exact absurd HA.out (by simp [dayshiftref01_Days.j0])
    | succ kj3 =>
      have H := HA.out
      clear HA
      simp only [dayshiftref01_Days.j0] at H
      by_cases c9 : x26_3 = true
      · subst c9
        have H1 : (some (0, 6)) = some (r1, r2) := by rw [if_pos rfl] at H; exact H
        clear H
        have H := H1
        clear H1
        simp only [Option.some.injEq, Prod.mk.injEq] at H
        obtain ⟨rfl, rfl⟩ := H
        go_wp2
        go_ret2
        exact ⟨by first | rfl | (simp; done) | (simp [*]; done), by repeat (first | exact Drawn0.refl _ | apply Drawn0.step)⟩
      · replace c9 := Bool.eq_false_iff.mpr c9
        subst c9
        have H1 : ((dayshiftref01_ahead.f a0).bind fun t237 => (dayshiftref01_Days.l0 kj3 a0 a1 (wrap64 (t237 + a2)) 1)) = some (r1, r2) := by rw [if_neg (show ¬ (false = true) by decide)] at H; exact H
        clear H
        have H := H1
        clear H1
        replace H := Option.bind_eq_some_iff.mp H
        obtain ⟨t237, A100, H⟩ := H
        replace H : (dayshiftref01_Days.l0 kj3 a0 a1 (wrap64 (t237 + a2)) 1) = some (r1, r2) := H
        have A10 := Aside0.mk A100
        clear A100
        have H' := Aside0.mk H
        clear H
        go_wp2_with (first | ((with_reducible refine gate_callee (f := 45) rfl ?_); refine goesL_ (some 28) rfl rfl Tryd.func45 (by kernel_rfl) rfl #[.int .i64 a0] rfl (by (try simp only [List.map_toArray, List.map_cons, List.map_nil]); first | done | rfl | (simp only [List.length_drop, List.length_take]; rfl)) ?_; (with_reducible refine (dayshiftref01_ahead.calls a0 t237 _ A10.out).mono ?_); rintro e w' ⟨rfl, ⟨nd, rfl⟩⟩; refine ⟨_, rfl, ?_⟩))
        go_loopg [8, 9] kj3 (fun kq v8 v9 w' => ∃ (x8_2 : Int) (x9_2 : Int), v8 = .int .i64 x8_2 ∧ v9 = .int .i64 x9_2 ∧ Aside0 (dayshiftref01_Days.l0 kq a0 a1 x8_2 x9_2 = some (r1, r2)) ∧ Aside0 (kq ≤ kj3) ∧ Drawn0 w w')
        case atStart => exact ⟨(wrap64 (t237 + a2)), (1), (by first | rfl | (simp; done) | (simp [*]; done)), (by first | rfl | (simp; done) | (simp [*]; done)), H', ⟨Nat.le_refl _⟩, by repeat (first | exact Drawn0.refl _ | apply Drawn0.step)⟩
        case round =>
          clear H'
          try clear c2
          try clear p2
          try clear c3
          try clear c4
          try clear c5
          try clear c5b0
          try clear c6
          try clear c6b0
          try clear p6
          try clear c7
          try clear c7b0
          try clear c9
          try clear p2
          obtain ⟨x8_2, x9_2, rfl, rfl, HA, HK2, ⟨m2, rfl⟩⟩ := hrel
          cases gk with
          | zero => exact absurd HA.out (by simp [dayshiftref01_Days.l0])
          | succ k2 =>
            have H := HA.out
            clear HA
            simp only [dayshiftref01_Days.l0] at H
            by_cases c11 : x9_2 < a1
            · rw [if_pos c11] at H
              have c11b0 : decide (x9_2 < a1) = true := decide_eq_true c11
              clear c11
              replace H := Option.bind_eq_some_iff.mp H
              obtain ⟨t238, A120, H⟩ := H
              replace H : (dayshiftref01_Days.l0 k2 a0 a1 (wrap64 (x8_2 + t238)) (wrap64 (x9_2 + 1))) = some (r1, r2) := H
              have A12 := Aside0.mk A120
              clear A120
              have H' := Aside0.mk H
              clear H
              go_wp2_with (first | ((with_reducible refine gate_callee (f := 44) rfl ?_); refine goesL_ (some 39) rfl rfl Tryd.func44 (by kernel_rfl) rfl #[.int .i64 a0, .int .i64 x9_2] rfl (by (try simp only [List.map_toArray, List.map_cons, List.map_nil]); first | done | rfl | (simp only [List.length_drop, List.length_take]; rfl)) ?_; (with_reducible refine (dayshiftref01_Len.calls k2 a0 x9_2 t238 _ A12.out).mono ?_); rintro e w' ⟨rfl, ⟨nd, rfl⟩⟩; refine ⟨_, rfl, ?_⟩))
              go_roundg k2
              case measure => have := HJ3.out; have := HK2.out; omega
              case rel => exact ⟨(wrap64 (x8_2 + t238)), (wrap64 (x9_2 + 1)), (by first | rfl | (simp; done) | (simp [*]; done)), (by first | rfl | (simp; done) | (simp [*]; done)), H', ⟨by have := HJ3.out; have := HK2.out; omega⟩, by repeat (first | exact Drawn0.refl _ | apply Drawn0.step)⟩
            · rw [if_neg c11] at H
              have c11b0 : decide (x9_2 < a1) = false := decide_eq_false c11
              clear c11
              simp only [Option.some.injEq, Prod.mk.injEq] at H
              obtain ⟨rfl, rfl⟩ := H
              go_wp2
              go_ret2
              exact ⟨by first | rfl | (simp; done) | (simp [*]; done), by repeat (first | exact Drawn0.refl _ | apply Drawn0.step)⟩

/-! ### dayshiftlaw06_day: function 16 -/
def dayshiftlaw06_day.f (k : Nat) (a0 : Int) (a1 : Int) (a2 : Int) : Option (Int) := (dayshiftref01_Days.f k a0 a1 a2).bind fun bt239 => (some bt239.1)
theorem dayshiftlaw06_day.mono : ∀ a0 a1 a2 k, LeO (dayshiftlaw06_day.f k a0 a1 a2) (dayshiftlaw06_day.f (k + 1) a0 a1 a2) := by
  intro a0 a1 a2 k
  unfold dayshiftlaw06_day.f
  repeat' first
      | (with_reducible exact dayshiftref01_Days.mono _ _ _ _)
      | (with_reducible exact LeO.refl _)
      | (with_reducible exact LeO.none _)
      | (with_reducible refine LeO.ite ?_ ?_)
      | (with_reducible refine LeO.bind ?_ (fun _ => ?_))
      | exact dayshiftref01_Days.mono _ _ _ _
      | exact LeO.none _
      | refine LeO.ite ?_ ?_
      | refine LeO.bind ?_ (fun _ => ?_)
set_option maxHeartbeats 8000000 in
set_option maxRecDepth 100000 in
theorem dayshiftlaw06_day.calls (k : Nat) (a0 : Int) (a1 : Int) (a2 : Int) (r : Int) (w : World) (h : dayshiftlaw06_day.f k a0 a1 a2 = some r) :
    Calls Tryd.prog 16 #[.int .i64 a0, .int .i64 a1, .int .i64 a2] w fun e w' => e = .returned (.int .i64 r) ∧ Drawn0 w w' := by
  have H : ((dayshiftref01_Days.f k a0 a1 a2).bind fun bt239 => (some bt239.1)) = some r := h
  clear h
  replace H := Option.bind_eq_some_iff.mp H
  obtain ⟨⟨t239, t240⟩, A40, H⟩ := H
  replace H : (some t239) = some r := H
  have A4 := Aside0.mk A40
  clear A40
  obtain rfl := Option.some.inj H
  go_enter Tryd.func16, Tryd.ntmps16
  go_wp2_with (first | ((with_reducible refine gate_callee (f := 27) rfl ?_); refine goesL_ (some 13) rfl rfl Tryd.func27 (by kernel_rfl) rfl #[.int .i64 a0, .int .i64 a1, .int .i64 a2] rfl (by (try simp only [List.map_toArray, List.map_cons, List.map_nil]); first | done | rfl | (simp only [List.length_drop, List.length_take]; rfl)) ?_; (with_reducible refine (dayshiftref01_Days.calls k a0 a1 a2 t239 t240 _ A4.out).mono ?_); rintro e w' ⟨rfl, ⟨nd, rfl⟩⟩; refine ⟨_, rfl, ?_⟩))
  go_ret
  exact ⟨by first | rfl | (simp; done) | (simp [*]; done), by repeat (first | exact Drawn0.refl _ | apply Drawn0.step)⟩

/-! ### cal_book_moved: function 28 -/
def moved.l0 : Nat → List S48 → S31 → Int → Int → Int → Option (Int × Bool)
  | 0, _, _, _, _, _ => none
  | k + 1, l, n, dir, day, kk =>
    if kk ≤ 10 then (date_Right.f day).bind fun b => if b = true then (in.f k l n day).bind fun c => if c = true then some (day, true) else moved.l0 k l n dir (wrap64 (day + dir)) (wrap64 (kk + 1)) else moved.l0 k l n dir (wrap64 (day + dir)) (wrap64 (kk + 1))
    else some (0, false)
theorem moved.mono_l : ∀ k l n dir day kk, LeO (moved.l0 k l n dir day kk) (moved.l0 (k + 1) l n dir day kk)
  | 0, _, _, _, _, _ => fun r h => by simp [moved.l0] at h
  | k + 1, l, n, dir, day, kk => by
    rw [moved.l0.eq_2, moved.l0.eq_2]
    exact LeO.ite (LeO.bind (LeO.refl _) (fun b => LeO.ite (LeO.bind (in.mono _ _ _ _) (fun c => LeO.ite (LeO.refl _) (moved.mono_l k _ _ _ _ _))) (moved.mono_l k _ _ _ _ _))) (LeO.refl _)
set_option maxHeartbeats 8000000 in
set_option maxRecDepth 100000 in
theorem moved.calls (k : Nat) (l : List S48) (A0 : Option Addr) (c0 : Nat) (bb mb : Nat) (met : Int) (w0 w : World) (n : S31) (A1 : Option Addr) (c1 : Nat) (A2 : Option Addr) (c2 : Nat) (dir day : Int) (r : Int × Bool)
    (he : Book l A0 c0 bb mb met w0 w) (h1 : (Kd.int .i64).C w0 A1 n.f1.length n.f1) (h1c : n.f1.length ≤ c1) (h2 : k31.C w0 A2 n.f2.length n.f2) (h2c : n.f2.length ≤ c2) (h : moved.l0 k l n dir day 0 = some r) :
    Calls Tryd.prog 28 #[.pointer (some ⟨bb, 0, none⟩), .agg #[.int .i64 n.f0, .slice A1 n.f1.length c1, .slice A2 n.f2.length c2, .string n.f3], .int .i64 dir, .int .i64 day] w fun e w' => e = .returned (.tuple #[.int .i64 r.1, .bool r.2]) ∧ KB (fun j => j = mb) w w' ∧ Memo l LL FF mb w' := by
  go_enter Tryd.func28, Tryd.ntmps28
  go_wp2_with (fail)
  obtain ⟨W, hW⟩ : ∃ W, W = w.alloc (.cells #[.int .i64 n.f0, .slice A1 n.f1.length c1, .slice A2 n.f2.length c2, .string n.f3] 31 (0, 0)) := ⟨_, rfl⟩
  have hb : Below w.heap.size w W := by rw [hW]; exact below_alloc (Below.refl _ _) _
  have kn : W.heap[w.heap.size]? = some (.cells #[.int .i64 n.f0, .slice A1 n.f1.length c1, .slice A2 n.f2.length c2, .string n.f3] 31 (0, 0)) := by rw [hW]; exact blk_new _ _
  have hmb := he.mlt
  have hWW := KB.refl (fun j => j = mb) W
  have HEW := Aside0.mk (he.below_ hb)
  have HB := Aside0.mk hb
  have HS : Aside0 (∀ W' : World, KB (fun j => j = mb) W W' → W'.cell? ⟨w.heap.size, 0, none⟩ = some (.int .i64 n.f0) ∧ W'.cell? ⟨w.heap.size, 1, none⟩ = some (.slice A1 n.f1.length c1) ∧ W'.cell? ⟨w.heap.size, 2, none⟩ = some (.slice A2 n.f2.length c2) ∧ W'.cell? ⟨w.heap.size, 3, none⟩ = some (.string n.f3)) := by
    constructor
    intro W' hW'
    have b_ : ∀ {q : Nat} {o : Obj} (hq : W.heap[q]? = some o) (j : Nat), q ≠ mb → W'.cell? ⟨q, j, none⟩ = W.cell? ⟨q, j, none⟩ := fun {q o} hq j hn => World.cell?_of_block (w := W) (hW'.block q (blk_lt hq) hn)
    have nn : w.heap.size ≠ mb := by omega
    exact ⟨(b_ kn 0 nn).trans (blk_cell kn 0), (b_ kn 1 nn).trans (blk_cell kn 1), (b_ kn 2 nn).trans (blk_cell kn 2), (b_ kn 3 nn).trans (blk_cell kn 3)⟩
  rw [← hW]
  have H1 := Aside0.mk h1
  have H2 := Aside0.mk h2
  have HA := Aside0.mk h
  have MW := Aside0.mk HEW.out.memo
  clear hW he h1 h2 hb kn h hmb
  go_loopg [3, 10] k (fun kq v3 v10 w' => ∃ (d x : Int), v3 = .int .i64 d ∧ v10 = .int .i64 x ∧ Aside0 (moved.l0 kq l n dir d x = some r) ∧ Aside0 (KB (fun j => j = mb) W w') ∧ Aside0 (Memo l LL FF mb w'))
  case atStart => exact ⟨day, 0, rfl, rfl, HA, ⟨hWW⟩, MW⟩
  case round =>
    clear HA
    obtain ⟨d, x, rfl, rfl, HA, HK, HM⟩ := hrel
    cases gk with
    | zero => exact absurd HA.out (by simp [moved.l0])
    | succ k1 =>
      have H := HA.out
      clear HA
      rw [moved.l0.eq_2] at H
      by_cases q1 : x ≤ 10
      rotate_left
      · rw [if_neg q1] at H
        obtain rfl := Option.some.inj H
        have q1b : decide (x ≤ 10) = false := decide_eq_false q1
        clear H
        go_wp2
        go_ret2
        exact ⟨rfl, (KB.of_below HB.out).trans HK.out (fun j h => .inl h), HM.out⟩
      rw [if_pos q1] at H
      have q1b : decide (x ≤ 10) = true := decide_eq_true q1
      obtain ⟨b, hb, H⟩ := Option.bind_eq_some_iff.mp H
      have hright := fun (W' : World) => date_Right.calls d b W' hb
      obtain ⟨p0, p1, p2, p3⟩ := HS.out wr HK.out
      cases b with
      | false =>
        rw [if_neg (by decide)] at H
        have HN := Aside0.mk H
        clear H hb
        go_wp2_with (go_at_call 19; refine (hright _).mono ?_; rintro e w1 ⟨rfl, hb1⟩)
        go_roundg k1
        case measure => exact Nat.lt_succ_self _
        case rel => exact ⟨_, _, rfl, rfl, HN, ⟨HK.out.drawn hb1⟩, ⟨HM.out.go hb1.below⟩⟩
      | true =>
        rw [if_pos rfl] at H
        obtain ⟨c, hin, H⟩ := Option.bind_eq_some_iff.mp H
        have hcall := fun (W' : World) (hK : KB (fun j => j = mb) W W') (hM : Memo l LL FF mb W') => in.calls k1 l A0 c0 bb mb met w0 W' n A1 c1 A2 c2 d c (HEW.out.turn hK hM) H1.out h1c H2.out h2c hin
        cases c with
        | true =>
          rw [if_pos rfl] at H
          obtain rfl := Option.some.inj H
          clear H hb hin
          go_wp2_with (first | (go_at_call 19; refine (hright _).mono ?_; rintro e w1 ⟨rfl, hb1⟩; have kb1 := HK.out.drawn hb1; have mm1 := HM.out.go hb1.below; clear p0 p1 p2 p3 hb1; obtain ⟨p0, p1, p2, p3⟩ := HS.out w1 kb1; have KB1 := Aside0.mk kb1; have MM1 := Aside0.mk mm1; clear kb1 mm1) | (go_at_call 15; refine (hcall _ KB1.out MM1.out).mono ?_; rintro e w2 ⟨rfl, hk2, hm2⟩))
          go_ret2
          exact ⟨rfl, ((KB.of_below HB.out).trans KB1.out (fun j h => .inl h)).trans hk2 (fun j h => .inl h), hm2⟩
        | false =>
          rw [if_neg (by decide)] at H
          have HN := Aside0.mk H
          clear H hb hin
          go_wp2_with (first | (go_at_call 19; refine (hright _).mono ?_; rintro e w1 ⟨rfl, hb1⟩; have kb1 := HK.out.drawn hb1; have mm1 := HM.out.go hb1.below; clear p0 p1 p2 p3 hb1; obtain ⟨p0, p1, p2, p3⟩ := HS.out w1 kb1; have KB1 := Aside0.mk kb1; have MM1 := Aside0.mk mm1; clear kb1 mm1) | (go_at_call 15; refine (hcall _ KB1.out MM1.out).mono ?_; rintro e w2 ⟨rfl, hk2, hm2⟩))
          go_roundg k1
          case measure => exact Nat.lt_succ_self _
          case rel => exact ⟨_, _, rfl, rfl, HN, ⟨KB1.out.trans hk2 (fun j h => .inl h)⟩, ⟨hm2⟩⟩

end Go.Proofs.YtpcjbnaggeiaoaaDoor.PCalMoved
