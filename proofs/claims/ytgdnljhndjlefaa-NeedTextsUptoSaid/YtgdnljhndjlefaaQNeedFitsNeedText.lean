/- Kinds of needs: kindOf, plain, num, textOf. No conditions beyond those that each theorem names. -/
import Derived.Test.YtgdnljhndjlefaaQNeedFitsPoolGive
import Derived.Handy
import Derived.OwnWalk
import Derived.Lib.Join
import Derived.Deep.RegionHeld3
namespace Go.Proofs.Ytgdnljhndjlefaa.QNeedFits
open Go.RowKit Go.Proofs.Ytgdnljhndjlefaa.PNeedFits Go.Proofs.YtgdnljhndjlefaaW.PrintWords Go.Proofs.YtgdnljhndjlefaaW.PrintLast Go.Proofs.YtgdnljhndjlefaaW.PrintMore Go.Proofs.Ytgdnljhndjlefaa.MMaps
set_option linter.unusedVariables false
set_option linter.unusedSimpArgs false
set_option maxRecDepth 100000
@[go_sem] theorem ask_uu (v : Value) (w : World) : (Instr.typeAssert (.iface 91 v) 89 91 true).run Try.prog w = .ok (.tuple #[v, .bool true]) w := by kernel_rfl
@[go_sem] theorem ask_lu (v : Value) (w : World) : (Instr.typeAssert (.iface 92 v) 89 91 true).run Try.prog w = .ok (.tuple #[.int .i64 0, .bool false]) w := by kernel_rfl
@[go_sem] theorem ask_ou (v : Value) (w : World) : (Instr.typeAssert (.iface 111 v) 89 91 true).run Try.prog w = .ok (.tuple #[.int .i64 0, .bool false]) w := by kernel_rfl
@[go_sem] theorem ask_ul (v : Value) (w : World) : (Instr.typeAssert (.iface 91 v) 89 92 true).run Try.prog w = .ok (.tuple #[.bool false, .bool false]) w := by kernel_rfl
@[go_sem] theorem ask_ll (v : Value) (w : World) : (Instr.typeAssert (.iface 92 v) 89 92 true).run Try.prog w = .ok (.tuple #[v, .bool true]) w := by kernel_rfl
@[go_sem] theorem ask_ol (v : Value) (w : World) : (Instr.typeAssert (.iface 111 v) 89 92 true).run Try.prog w = .ok (.tuple #[.bool false, .bool false]) w := by kernel_rfl
theorem drw_trans {a b c : World} (h1 : Drawn0 a b) (h2 : Drawn0 b c) : Drawn0 a c := by
  obtain ⟨n, rfl⟩ := h1
  obtain ⟨m, rfl⟩ := h2
  exact ⟨n + m, by unfold World.drewN; simp [Nat.add_assoc]⟩
/-- A kind: units, a lock, or none of these. -/
def kindV (n m : Int) : Value := if m = 0 then .iface 91 (.int .i64 n) else if m = 1 then .iface 92 (.bool false) else if m = 2 then .iface 92 (.bool true) else .iface 111 (.agg #[])
theorem kindOf.calls (n m : Int) (w : World) : Calls Try.prog 39 #[.int .i64 n, .int .i64 m] w fun e w' => e = .returned (kindV n m) ∧ Drawn0 w w' := by
  unfold kindV
  by_cases h0 : m = 0
  · subst h0
    rw [if_pos rfl]
    go_enter Try.func39, Try.ntmps39
    go_wp2
    go_ret
    exact ⟨rfl, by first | exact Drawn0.refl _ | exact ⟨_, rfl⟩⟩
  · rw [if_neg h0]
    by_cases h1 : m = 1
    · subst h1
      rw [if_pos rfl]
      go_enter Try.func39, Try.ntmps39
      go_wp2
      go_ret
      exact ⟨rfl, by first | exact Drawn0.refl _ | exact ⟨_, rfl⟩⟩
    · rw [if_neg h1]
      by_cases h2 : m = 2
      · subst h2
        rw [if_pos rfl]
        go_enter Try.func39, Try.ntmps39
        go_wp2
        go_ret
        exact ⟨rfl, by first | exact Drawn0.refl _ | exact ⟨_, rfl⟩⟩
      · rw [if_neg h2]
        have b0 : (m == 0) = false := beq_eq_false_iff_ne.mpr h0
        have b1 : (m == 1) = false := beq_eq_false_iff_ne.mpr h1
        have b2 : (m == 2) = false := beq_eq_false_iff_ne.mpr h2
        go_enter Try.func39, Try.ntmps39
        go_wp2
        go_ret
        exact ⟨rfl, by first | exact Drawn0.refl _ | exact ⟨_, rfl⟩⟩
/-! ### Numbers as texts -/
def digitB (n : Int) : ByteArray := ⟨#[UInt8.ofNat (48 + n).toNat]⟩
def numB (n : Int) : ByteArray := if h : n < 10 then digitB n else numB (n / 10) ++ digitB (n % 10)
termination_by n.toNat
decreasing_by omega
theorem numB_lt {n : Int} (h : n < 10) : numB n = digitB n := by rw [numB]; simp [h]
theorem numB_ge {n : Int} (h : ¬ n < 10) : numB n = numB (n / 10) ++ digitB (n % 10) := by rw [numB]; simp [h]
theorem num_small (n : Int) (h0 : 0 ≤ n) (h : n < 10) (w : World) : Calls Try.prog 57 #[.int .i64 n] w fun e w' => e = .returned (.string (digitB n)) ∧ Drawn0 w w' := by
  rcases (by omega : n = 0 ∨ n = 1 ∨ n = 2 ∨ n = 3 ∨ n = 4 ∨ n = 5 ∨ n = 6 ∨ n = 7 ∨ n = 8 ∨ n = 9) with e | e | e | e | e | e | e | e | e | e
  all_goals
    subst e
    go_enter Try.func57, Try.ntmps57
    go_wp2
    go_ret
    exact ⟨rfl, by first | exact Drawn0.refl _ | exact ⟨_, rfl⟩⟩
theorem digitB_size (n : Int) : (digitB n).size = 1 := rfl
theorem numB_size : ∀ (m : Nat) (n : Int), n.toNat ≤ m → (numB n).size ≤ n.toNat + 1 := by
  intro m
  induction m with
  | zero => intro n h; rw [numB_lt (by omega), digitB_size]; omega
  | succ m ih =>
    intro n h
    by_cases hn : n < 10
    · rw [numB_lt hn, digitB_size]; omega
    · rw [numB_ge hn, ByteArray.size_append, digitB_size]
      have := ih (n / 10) (by omega)
      omega
set_option maxHeartbeats 8000000 in
theorem num.calls : ∀ (m : Nat) (n : Int) (w : World), n.toNat ≤ m → 0 ≤ n → n ≤ 9223372036854775807 → Calls Try.prog 57 #[.int .i64 n] w fun e w' => e = .returned (.string (numB n)) ∧ Drawn0 w w' := by
  intro m
  induction m with
  | zero => intro n w h h0 _; rw [numB_lt (by omega)]; exact num_small n h0 (by omega) w
  | succ m ih =>
    intro n w h h0 hb
    by_cases hn : n < 10
    · rw [numB_lt hn]; exact num_small n h0 hn w
    · rw [numB_ge hn]
      have h1 := fun W => ih (n / 10) W (by omega) (by omega) (by omega)
      have h2 := fun W => num_small (n % 10) (by omega) (by omega) W
      have hs := numB_size _ (n / 10) (Nat.le_refl _)
      have hd : Int.tdiv n 10 = n / 10 := Int.tdiv_eq_ediv_of_nonneg h0
      have hm : Int.tmod n 10 = n % 10 := Int.tmod_eq_emod_of_nonneg h0
      have b1 : decide (n < 10) = false := decide_eq_false hn
      have hsz : (numB (n / 10)).size + (digitB (n % 10)).size ≤ 9223372036854775807 := by rw [digitB_size]; omega
      generalize numB (n / 10) = A at *
      generalize digitB (n % 10) = B at *
      go_enter Try.func57, Try.ntmps57
      go_wp2_with (go_at_call 57; first | ((with_reducible refine (h1 _).mono ?_); rintro e1 w1 ⟨rfl, d1⟩) | ((with_reducible refine (h2 _).mono ?_); rintro e2 w2 ⟨rfl, d2⟩))
      go_ret
      exact ⟨rfl, drw_trans d1 d2⟩
/-- A kind as a text. -/
def kindT (n m : Int) : ByteArray := if m = 0 then (if n < 0 then ⟨#[63]⟩ else numB n) else if m = 1 then ⟨#[115]⟩ else if m = 2 then ⟨#[120]⟩ else ⟨#[63]⟩
theorem uplain.calls (n : Int) (w : World) : Calls Try.prog 106 #[.int .i64 n] w fun e w' => e = .returned (.bool (decide (n ≥ 0))) ∧ Drawn0 w w' := by
  go_enter Try.func106, Try.ntmps106
  go_wp2
  go_ret
  exact ⟨rfl, by first | exact Drawn0.refl _ | exact ⟨_, rfl⟩⟩
theorem lplain.calls (v : Bool) (w : World) : Calls Try.prog 107 #[.bool v] w fun e w' => e = .returned (.bool true) ∧ Drawn0 w w' := by
  go_enter Try.func107, Try.ntmps107
  go_wp2
  go_ret
  exact ⟨rfl, by first | exact Drawn0.refl _ | exact ⟨_, rfl⟩⟩
theorem oplain.calls (w : World) : Calls Try.prog 108 #[.agg #[]] w fun e w' => e = .returned (.bool false) ∧ Below w.heap.size w w' := by
  go_enter Try.func108, Try.ntmps108
  go_wp2
  go_ret
  exact ⟨rfl, below_alloc (Below.refl _ _) _⟩
set_option maxHeartbeats 8000000 in
theorem textOf.calls (n m : Int) (hn : n ≤ 9223372036854775807) (w : World) : Calls Try.prog 43 #[kindV n m] w fun e w' => e = .returned (.string (kindT n m)) ∧ Below w.heap.size w w' := by
  unfold kindV kindT
  by_cases h0 : m = 0
  · rw [if_pos h0, if_pos h0]
    by_cases hneg : n < 0
    · rw [if_pos hneg]
      have hp := fun W => uplain.calls n W
      rw [show decide (n ≥ 0) = false from decide_eq_false (by omega)] at hp
      go_enter Try.func43, Try.ntmps43
      go_wp2_with (go_at_call 106; refine (hp _).mono ?_; rintro e1 w1 ⟨rfl, d1⟩)
      go_ret
      exact ⟨rfl, d1.below⟩
    · rw [if_neg hneg]
      have hp := fun W => uplain.calls n W
      rw [show decide (n ≥ 0) = true from decide_eq_true (by omega)] at hp
      have hq := fun W => num.calls n.toNat n W (Nat.le_refl _) (by omega) hn
      generalize numB n = A at *
      go_enter Try.func43, Try.ntmps43
      go_wp2_with (first | (go_at_call 106; refine (hp _).mono ?_; rintro e1 w1 ⟨rfl, d1⟩) | (go_at_call 57; refine (hq _).mono ?_; rintro e2 w2 ⟨rfl, d2⟩))
      go_ret
      exact ⟨rfl, (drw_trans d1 d2).below⟩
  · rw [if_neg h0, if_neg h0]
    by_cases h1 : m = 1
    · rw [if_pos h1, if_pos h1]
      go_enter Try.func43, Try.ntmps43
      go_wp2_with (go_at_call 107; refine (lplain.calls false _).mono ?_; rintro e1 w1 ⟨rfl, d1⟩)
      go_ret
      exact ⟨rfl, d1.below⟩
    · rw [if_neg h1, if_neg h1]
      by_cases h2 : m = 2
      · rw [if_pos h2, if_pos h2]
        go_enter Try.func43, Try.ntmps43
        go_wp2_with (go_at_call 107; refine (lplain.calls true _).mono ?_; rintro e1 w1 ⟨rfl, d1⟩)
        go_ret
        exact ⟨rfl, d1.below⟩
      · rw [if_neg h2, if_neg h2]
        go_enter Try.func43, Try.ntmps43
        go_wp2_with (go_at_call 108; refine (oplain.calls _).mono ?_; rintro e1 w1 ⟨rfl, d1⟩)
        go_ret
        exact ⟨rfl, d1⟩
end Go.Proofs.Ytgdnljhndjlefaa.QNeedFits

/- Totals of what is held. No conditions beyond those that each theorem names. -/
namespace Go.Proofs.Ytgdnljhndjlefaa.QNeedFits
open Go.RowKit Go.Proofs.Ytgdnljhndjlefaa.PNeedFits Go.Proofs.YtgdnljhndjlefaaW.PrintWords Go.Proofs.YtgdnljhndjlefaaW.PrintLast Go.Proofs.YtgdnljhndjlefaaW.PrintMore Go.Proofs.Ytgdnljhndjlefaa.MMaps
set_option linter.unusedVariables false
set_option linter.unusedSimpArgs false
set_option maxRecDepth 100000
structure Tot where
  n : Int
  s : Int
  x : Int
/-- One more that is held. -/
def tot1 (t : Tot) (n m : Int) : Tot := if m = 0 then ⟨max (t.n + min n (4096000 - t.n)) 0, t.s, t.x⟩ else if m = 1 then ⟨t.n, t.s + 1, t.x⟩ else if m = 2 then ⟨t.n, t.s, t.x + 1⟩ else t
def totOf (s : ByteArray) (L : List S57) : Tot := L.foldl (fun t h => if eqS h.f1 s then tot1 t h.f2 h.f3 else t) ⟨0, 0, 0⟩
theorem totOf_snoc (s : ByteArray) (L : List S57) (i : Nat) (h : i < L.length) : totOf s (L.take (i + 1)) = if eqS L[i].f1 s then tot1 (totOf s (L.take i)) L[i].f2 L[i].f3 else totOf s (L.take i) := by
  unfold totOf
  rw [List.take_succ_eq_append_getElem h, List.foldl_append]; rfl
structure TotIn (t : Tot) (i : Nat) : Prop where
  n0 : 0 ≤ t.n
  n1 : t.n ≤ 4096000
  s0 : 0 ≤ t.s
  s1 : t.s ≤ i
  x0 : 0 ≤ t.x
  x1 : t.x ≤ i
theorem tot1_in {t : Tot} {i : Nat} (h : TotIn t i) (n m : Int) : TotIn (tot1 t n m) (i + 1) := by
  obtain ⟨h1, h2, h3, h4, h5, h6⟩ := h
  unfold tot1
  split
  · exact ⟨by dsimp only; omega, by dsimp only; omega, by dsimp only; omega, by dsimp only; omega, by dsimp only; omega, by dsimp only; omega⟩
  · split
    · exact ⟨by dsimp only; omega, by dsimp only; omega, by dsimp only; omega, by dsimp only; omega, by dsimp only; omega, by dsimp only; omega⟩
    · split <;> exact ⟨by (try dsimp only); omega, by (try dsimp only); omega, by (try dsimp only); omega, by (try dsimp only); omega, by (try dsimp only); omega, by (try dsimp only); omega⟩
theorem TotIn.up {t : Tot} {i : Nat} (h : TotIn t i) : TotIn t (i + 1) := ⟨h.n0, h.n1, h.s0, by have := h.s1; omega, h.x0, by have := h.x1; omega⟩
theorem rdhp_at (L : List S57) (i : Nat) (h : i < L.length) : rd_T57 L (i : Int) = L[i] := by
  unfold rd_T57
  rw [Int.toNat_natCast]
  simp [List.getD, List.getElem?_eq_getElem h]
set_option maxHeartbeats 8000000 in
theorem Total.calls (A0 : Option Addr) (c0 : Nat) (L : List S57) (s : ByteArray) (w : World) (hC : Kd.C k57 w A0 L.length L) (hc : L.length ≤ c0) (hl : L.length ≤ 4398046511104) (hw : ∀ h ∈ L, -9223372036854775808 ≤ h.f2) :
    Calls Try.prog 20 #[.slice A0 L.length c0, .string s] w fun e w' => e = .returned (.tuple #[.int .i64 (totOf s L).n, .int .i64 (totOf s L).s, .int .i64 (totOf s L).x]) ∧ Below w.heap.size w w' := by
  have HC := Aside0.mk hC
  clear hC
  go_enter Try.func20, Try.ntmps20
  go_wp2
  go_loopg [4, 5, 6, 13] L.length (fun gg v4 v5 v6 v13 wr => ∃ (i : Nat) (t : Tot), i ≤ L.length ∧ L.length - i ≤ gg ∧ v13 = .int .i64 i ∧ v4 = .int .i64 t.n ∧ v5 = .int .i64 t.s ∧ v6 = .int .i64 t.x ∧ TotIn t i ∧ Aside0 (totOf s (L.take i) = t) ∧ Aside0 (Below w.heap.size w wr))
  case atStart => exact ⟨0, ⟨0, 0, 0⟩, Nat.zero_le _, by omega, rfl, rfl, rfl, rfl, ⟨by simp, by simp, by simp, by simp, by simp, by simp⟩, ⟨rfl⟩, ⟨Below.refl _ _⟩⟩
  case round =>
    obtain ⟨i, t, hi, hg, rfl, rfl, rfl, rfl, hin, HT, HB⟩ := hrel
    by_cases hlt : i < L.length
    · have b2 : decide ((i : Int) < (L.length : Int)) = true := decide_eq_true (by omega)
      obtain ⟨ad, e, x0, x1, x2, x3⟩ := at_T57 HC.out (i : Int) (by omega) (by omega)
      cases e
      rw [rdhp_at L i hlt, Int.toNat_natCast] at x0 x1 x2 x3
      have hbk := World.block_lt_of_cell? w _ x0
      have HS := Aside0.mk (totOf_snoc s L i hlt)
      have hwx := hw _ (List.getElem_mem hlt)
      obtain ⟨x, hx⟩ : ∃ x, L[i] = x := ⟨_, rfl⟩
      rw [hx] at x0 x1 x2 x3 HS hwx
      rw [HT.out] at HS
      clear hx HT
      replace x0 := (HB.out.cell hbk).trans x0
      replace x1 := (HB.out.cell (p := ⟨(ad.add (i * 4)).block, (ad.add (i * 4)).off + 1, none⟩) hbk).trans x1
      replace x2 := (HB.out.cell (p := ⟨(ad.add (i * 4)).block, (ad.add (i * 4)).off + 2, none⟩) hbk).trans x2
      replace x3 := (HB.out.cell (p := ⟨(ad.add (i * 4)).block, (ad.add (i * 4)).off + 3, none⟩) hbk).trans x3
      cases hq : eqS x.f1 s with
      | false =>
        have t1 : (x.f1.toList == s.toList) = false := hq
        have t2 : (x.f1.toList != s.toList) = true := by unfold bne; rw [t1]; rfl
        rw [hq] at HS
        clear hq
        go_wp2
        go_roundg (L.length - (i + 1))
        case measure => omega
        case rel => exact ⟨i + 1, t, by omega, Nat.le_refl _, by go_num, rfl, rfl, rfl, hin.up, HS, ⟨below_alloc HB.out _⟩⟩
      | true =>
        have t1 : (x.f1.toList == s.toList) = true := hq
        have t2 : (x.f1.toList != s.toList) = false := by unfold bne; rw [t1]; rfl
        rw [hq, if_pos rfl] at HS
        have hin2 := tot1_in hin x.f2 x.f3
        have hk := fun W => kindOf.calls x.f2 x.f3 W
        unfold kindV at hk
        unfold tot1 at HS hin2
        obtain ⟨n1, n2, n3, n4, n5, n6⟩ := hin
        clear hq
        by_cases h0 : x.f3 = 0
        · rw [if_pos h0] at HS hin2
          simp only [if_pos h0] at hk
          clear h0
          go_wp2_with (go_at_call 39; refine (hk _).mono ?_; rintro e1 w1 ⟨rfl, d1⟩)
          all_goals
            go_roundg (L.length - (i + 1))
            case measure => omega
            case rel => exact ⟨i + 1, ⟨max (t.n + min x.f2 (4096000 - t.n)) 0, t.s, t.x⟩, by omega, Nat.le_refl _, by go_num, by (first | rfl | (congr 1; done) | (congr 1; (try unfold wrap64 IntKind.wrap at *); (repeat' split at *) <;> (try simp at *) <;> omega)), rfl, rfl, hin2, HS, ⟨below_go (below_alloc HB.out _) (below_alloc HB.out _).size d1.below⟩⟩
        · rw [if_neg h0] at HS hin2
          simp only [if_neg h0] at hk
          clear h0
          by_cases h1 : x.f3 = 1
          · rw [if_pos h1] at HS hin2
            simp only [if_pos h1] at hk
            clear h1
            go_wp2_with (go_at_call 39; refine (hk _).mono ?_; rintro e1 w1 ⟨rfl, d1⟩)
            go_roundg (L.length - (i + 1))
            case measure => omega
            case rel => exact ⟨i + 1, ⟨t.n, t.s + 1, t.x⟩, by omega, Nat.le_refl _, by go_num, rfl, by (first | rfl | (congr 1; done) | (congr 1; (try unfold wrap64 IntKind.wrap at *); (repeat' split at *) <;> (try simp at *) <;> omega)), rfl, hin2, HS, ⟨below_go (below_alloc HB.out _) (below_alloc HB.out _).size d1.below⟩⟩
          · rw [if_neg h1] at HS hin2
            simp only [if_neg h1] at hk
            clear h1
            by_cases h2 : x.f3 = 2
            · rw [if_pos h2] at HS hin2
              simp only [if_pos h2] at hk
              clear h2
              go_wp2_with (go_at_call 39; refine (hk _).mono ?_; rintro e1 w1 ⟨rfl, d1⟩)
              go_roundg (L.length - (i + 1))
              case measure => omega
              case rel => exact ⟨i + 1, ⟨t.n, t.s, t.x + 1⟩, by omega, Nat.le_refl _, by go_num, rfl, rfl, by (first | rfl | (congr 1; done) | (congr 1; (try unfold wrap64 IntKind.wrap at *); (repeat' split at *) <;> (try simp at *) <;> omega)), hin2, HS, ⟨below_go (below_alloc HB.out _) (below_alloc HB.out _).size d1.below⟩⟩
            · rw [if_neg h2] at HS hin2
              simp only [if_neg h2] at hk
              clear h2
              go_wp2_with (go_at_call 39; refine (hk _).mono ?_; rintro e1 w1 ⟨rfl, d1⟩)
              go_roundg (L.length - (i + 1))
              case measure => omega
              case rel => exact ⟨i + 1, t, by omega, Nat.le_refl _, by go_num, rfl, rfl, rfl, hin2, HS, ⟨below_go (below_alloc HB.out _) (below_alloc HB.out _).size d1.below⟩⟩
    · have b2 : decide ((i : Int) < (L.length : Int)) = false := decide_eq_false (by omega)
      have ht := HT.out
      rw [List.take_of_length_le (by omega)] at ht
      have HTT := Aside0.mk ht
      clear ht HT
      go_wp2
      go_ret3
      exact ⟨by rw [HTT.out]; rfl, HB.out⟩
end Go.Proofs.Ytgdnljhndjlefaa.QNeedFits

/- Needs as a text. No conditions beyond those that each theorem names. -/
namespace Go.Proofs.Ytgdnljhndjlefaa.QNeedFits
open Go.RowKit Go.Proofs.Ytgdnljhndjlefaa.PNeedFits Go.Proofs.YtgdnljhndjlefaaW.PrintWords Go.Proofs.YtgdnljhndjlefaaW.PrintLast Go.Proofs.YtgdnljhndjlefaaW.PrintMore Go.Proofs.Ytgdnljhndjlefaa.MMaps
set_option linter.unusedVariables false
set_option linter.unusedSimpArgs false
set_option maxRecDepth 100000
def JoinOk : Prop := ∀ (bk o c : Nat) (xs : List ByteArray) (sep : ByteArray) (w : World), (∀ (j : Nat) x, xs[j]? = some x → w.cell? ⟨bk, o + j, none⟩ = some (.string x)) → bk < w.heap.size → xs.length ≤ 140737488355328 → xs.length ≤ c → (Lib.join (xs.map (·.data.toList)) sep.data.toList).length ≤ 140737488355328 →
    Calls Try.prog 44 #[.slice (some ⟨bk, o, none⟩) xs.length c, .string sep] w fun e w' => e = .returned (.string ⟨(Lib.join (xs.map (·.data.toList)) sep.data.toList).toArray⟩) ∧ Below w.heap.size w w'
def JoinNone : Prop := ∀ (a : Option Addr) (c : Nat) (sep : ByteArray) (w : World), Calls Try.prog 44 #[.slice a 0 c, .string sep] w fun e w' => e = .returned (.string ⟨#[]⟩) ∧ w' = w
abbrev sp1 : ByteArray := ⟨#[32]⟩
abbrev co1 : ByteArray := ⟨#[58]⟩
/-- A need as a text. -/
def pieceB (n : S52) : ByteArray := (n.f0 ++ co1) ++ kindT n.f1 n.f2
def joinB (xs : List ByteArray) (sep : ByteArray) : ByteArray := ⟨(Lib.join (xs.map (·.data.toList)) sep.data.toList).toArray⟩
def textB (l : List S52) : ByteArray := joinB (l.map pieceB) sp1
theorem infoStrg : (Try.prog.info? 9).map (fun i => (i.zero, i.size, i.bytes)) = some (some (.string ⟨#[]⟩), 1, 16) := by kernel_rfl
theorem kindT_size (n m : Int) (h : n ≤ 9223372036854775807) : (kindT n m).size ≤ 1000000000000000000 := by
  unfold kindT
  split
  · split
    · exact Nat.le_trans (show (⟨#[63]⟩ : ByteArray).size ≤ 1 by decide) (by decide)
    · by_cases hn : n < 10
      · rw [numB_lt hn, digitB_size]; decide
      · rw [numB_ge hn, ByteArray.size_append, digitB_size]
        have := numB_size _ (n / 10) (Nat.le_refl _)
        omega
  · split
    · exact Nat.le_trans (show (⟨#[115]⟩ : ByteArray).size ≤ 1 by decide) (by decide)
    · split
      · exact Nat.le_trans (show (⟨#[120]⟩ : ByteArray).size ≤ 1 by decide) (by decide)
      · exact Nat.le_trans (show (⟨#[63]⟩ : ByteArray).size ≤ 1 by decide) (by decide)
theorem str_open {w : World} {base : Nat} {v : Value} {L : List ByteArray} {ok : Nat → Prop} (h : Kd.string.R 9 w base ok v L) : (v = .slice none 0 0 ∧ L = []) ∨ ∃ g cap, v = .slice (some ⟨g, 0, none⟩) L.length cap ∧ g < w.heap.size ∧ L.length ≤ cap ∧ ∀ (j : Nat) x, L[j]? = some x → w.cell? ⟨g, 0 + j, none⟩ = some (.string x) := by
  obtain ⟨h0, inner, ⟨hl, hv⟩, hr1, hr2⟩ := h
  rcases hv with ⟨rfl, hn⟩ | ⟨g, cap, cur, rfl, hb, hg, h1, h2, h3, h4⟩
  · exact .inl ⟨rfl, List.length_eq_zero_iff.mp hn⟩
  · refine .inr ⟨g, cap, rfl, blk_lt hg, h1, fun j x hx => ?_⟩
    have hj : j < L.length := (List.getElem?_eq_some_iff.mp hx).1
    have hm : ((inner.drop (j * 1)).take 1) = [.string x] := hr2 j x hx
    have e : inner[j]? = some (.string x) := by
      have : ((inner.drop (j * 1)).take 1)[0]? = some (.string x) := by rw [hm]; rfl
      rw [List.getElem?_take, if_pos (by omega), List.getElem?_drop] at this
      rw [← this]; congr 1; omega
    have e2 : cur[j]? = some (.string x) := by
      rw [← e, ← h4]
      show _ = (cur.toList.take (L.length * 1))[j]?
      rw [List.getElem?_take, if_pos (by omega), Array.getElem?_toList]
    rw [Nat.zero_add]
    rw [blk_cell hg j]
    exact e2
theorem rdnd_at (L : List S52) (i : Nat) (h : i < L.length) : rd_T52 L (i : Int) = L[i] := by
  unfold rd_T52
  rw [Int.toNat_natCast]
  simp [List.getD, List.getElem?_eq_getElem h]
set_option maxHeartbeats 8000000 in
theorem Text.calls (hJ : JoinOk) (hJ0 : JoinNone) (A0 : Option Addr) (c0 : Nat) (l : List S52) (w : World) (hC : Kd.C k52 w A0 l.length l) (hc : l.length ≤ c0) (hl : l.length ≤ 100000) (hw : ∀ n ∈ l, n.f0.size ≤ 1000000000000000000 ∧ n.f1 ≤ 9223372036854775807) (hlen : (Lib.join ((l.map pieceB).map (·.data.toList)) sp1.data.toList).length ≤ 140737488355328) :
    Calls Try.prog 27 #[.slice A0 l.length c0] w fun e w' => e = .returned (.string (textB l)) ∧ Below w.heap.size w w' := by
  have HC := Aside0.mk hC
  have HJ := Aside0.mk hJ
  have HJ0 := Aside0.mk hJ0
  have HLEN := Aside0.mk hlen
  clear hC hJ hJ0 hlen
  go_enter Try.func27, Try.ntmps27
  go_wp2
  go_loopg [3, 8] l.length (fun gg v3 v8 wr => ∃ (i : Nat), i ≤ l.length ∧ l.length - i ≤ gg ∧ v8 = .int .i64 i ∧ Aside0 (Kd.string.R 9 wr w.heap.size (fun _ => True) v3 ((l.take i).map pieceB)) ∧ Aside0 (Below w.heap.size w wr))
  case atStart => exact ⟨0, Nat.zero_le _, by omega, rfl, ⟨Kd.R_nil _ _ _ _ _⟩, ⟨Below.refl _ _⟩⟩
  case round =>
    obtain ⟨i, hi, hg, rfl, HR, HB⟩ := hrel
    by_cases hlt : i < l.length
    · have b2 : decide ((i : Int) < (l.length : Int)) = true := decide_eq_true (by omega)
      obtain ⟨ad, e, x0, x1, x2⟩ := at_T52 HC.out (i : Int) (by omega) (by omega)
      cases e
      rw [rdnd_at l i hlt, Int.toNat_natCast] at x0 x1 x2
      have hbk := World.block_lt_of_cell? w _ x0
      have hwx := hw _ (List.getElem_mem hlt)
      have HTK := Aside0.mk (show (l.take (i + 1)).map pieceB = (l.take i).map pieceB ++ [pieceB l[i]] by rw [List.take_succ_eq_append_getElem hlt, List.map_append]; rfl)
      obtain ⟨x, hx⟩ : ∃ x, l[i] = x := ⟨_, rfl⟩
      rw [hx] at x0 x1 x2 HTK hwx
      clear hx
      replace x0 := (HB.out.cell hbk).trans x0
      replace x1 := (HB.out.cell (p := ⟨(ad.add (i * 3)).block, (ad.add (i * 3)).off + 1, none⟩) hbk).trans x1
      replace x2 := (HB.out.cell (p := ⟨(ad.add (i * 3)).block, (ad.add (i * 3)).off + 2, none⟩) hbk).trans x2
      have hks := kindT_size x.f1 x.f2 hwx.2
      have hk := fun W => kindOf.calls x.f1 x.f2 W
      have ht := fun W => textOf.calls x.f1 x.f2 hwx.2 W
      have hp : pieceB x = (x.f0 ++ co1) ++ kindT x.f1 x.f2 := rfl
      rw [hp] at HTK
      have hwx1 := hwx.1
      have hs1 : x.f0.size + 1 ≤ 9223372036854775807 := by omega
      have hs3 : x.f0.size + 1 + (kindT x.f1 x.f2).size ≤ 9223372036854775807 := by omega
      have hs4 : (9223372036854775807 < x.f0.size + 1) = False := eq_false (by omega)
      have hs5 : (9223372036854775807 < x.f0.size + 1 + (kindT x.f1 x.f2).size) = False := eq_false (by omega)
      have hs2 : (x.f0 ++ co1).size + (kindT x.f1 x.f2).size ≤ 9223372036854775807 := by rw [ByteArray.size_append]; have : co1.size = 1 := rfl; omega
      have hs6 : (9223372036854775807 < (x.f0 ++ co1).size + (kindT x.f1 x.f2).size) = False := eq_false (by omega)
      generalize kindT x.f1 x.f2 = kt at *
      generalize kindV x.f1 x.f2 = kv at *
      clear hp hks
      go_upto_region 5 with (fail)
      obtain ⟨V, hV⟩ : ∃ V, V = wr.alloc (.cells #[.string x.f0, .int .i64 x.f1, .int .i64 x.f2] 52 (0, 0)) := ⟨_, rfl⟩
      have hbV : Below wr.heap.size wr V := by rw [hV]; exact below_alloc (Below.refl _ _) _
      have kb : V.heap[wr.heap.size]? = some (.cells #[.string x.f0, .int .i64 x.f1, .int .i64 x.f2] 52 (0, 0)) := by rw [hV]; exact blk_new _ _
      rw [← hV]
      clear hV x0 x1 x2
      have HBV := Aside0.mk (below_go HB.out HB.out.size hbV)
      have HRV := Aside0.mk (Kd.R_below HR.out hbV)
      have HKB := Aside0.mk (fun (X : World) (hX : Below V.heap.size V X) => show X.cell? ⟨wr.heap.size, 0, none⟩ = some (.string x.f0) ∧ X.cell? ⟨wr.heap.size, 1, none⟩ = some (.int .i64 x.f1) ∧ X.cell? ⟨wr.heap.size, 2, none⟩ = some (.int .i64 x.f2) from ⟨blk_cell (blk_below kb hX) 0, blk_cell (blk_below kb hX) 1, blk_cell (blk_below kb hX) 2⟩)
      have HKG := Aside0.mk (fun (X : World) (hX : X.heap[wr.heap.size]? = some (.cells #[.string x.f0, .int .i64 x.f1, .int .i64 x.f2] 52 (0, 0))) => show X.cell? ⟨wr.heap.size, 0, none⟩ = some (.string x.f0) ∧ X.cell? ⟨wr.heap.size, 1, none⟩ = some (.int .i64 x.f1) ∧ X.cell? ⟨wr.heap.size, 2, none⟩ = some (.int .i64 x.f2) from ⟨blk_cell hX 0, blk_cell hX 1, blk_cell hX 2⟩)
      have HKX := Aside0.mk (fun (X : World) (hX : Below V.heap.size V X) => blk_below kb hX)
      have hne : ∀ k, u3.ownBlock = some k → k < wr.heap.size := fun k hk => (Kd.R_bound HR.out).1 k hk |>.2.2.1
      have HNE := Aside0.mk hne
      have hlv : wr.heap.size < V.heap.size := blk_lt kb
      have hq := Below.refl V.heap.size V
      clear kb hbV hne
      go_region_held3 (fun X => X.cell? ⟨wr.heap.size, 0, none⟩ = some (.string x.f0) ∧ X.cell? ⟨wr.heap.size, 1, none⟩ = some (.int .i64 x.f1) ∧ X.cell? ⟨wr.heap.size, 2, none⟩ = some (.int .i64 x.f2)) (first | exact HKB.out _ hq | exact HKB.out _ (below_drew1 hq) | exact HKB.out _ v1 | exact HKB.out _ v2 | exact HKB.out _ (below_alloc v2 _) | exact HKG.out _ ((HG2.out.block _ (Nat.lt_of_lt_of_le hlv v2.size) (fun e9 => absurd (HNE.out _ e9.symm) (Nat.lt_irrefl _))).trans (HKX.out _ v2))) (first
        | (go_at_call 39; refine (hk _).mono ?_; rintro e3 w3 ⟨rfl, d3⟩; have v1 := (below_drew1 hq).trans (d3.below))
        | (go_at_call 43; refine (ht _).mono ?_; rintro e4 w4 ⟨rfl, b4⟩; have v2 := below_go v1 v1.size b4)
        | (refine Kd.R_append_step Kd.string (w0 := w) w.heap.size (by rfl) (.tmp 12) (.tmp 23) 95 9 (.string ⟨#[]⟩) 16 rfl Try.underlying95 infoStrg rfl (by decide) (by decide) u3 ((l.take i).map pieceB) ((x.f0 ++ co1) ++ kt) [.string ((x.f0 ++ co1) ++ kt)] (fun _ => True) (fun _ => False) rfl rfl rfl (fun _ hk => hk.elim) ?aF ?aO ?aB ?aS ?aL ?_; (case aF => exact (fun k hk => trivial)); (case aO => exact Kd.R_below HRV.out v2); (case aB => exact below_go HBV.out HBV.out.size v2); (case aS => have := HBV.out.size; have := v2.size; omega); (case aL => simp; omega); intro v5 w5 ho hb hg hat; have HO2 := Aside0.mk ho; have HB2 := Aside0.mk hb; have HG2 := Aside0.mk hg; clear ho hb hg hat))
      go_wp2
      go_roundg (l.length - (i + 1))
      case measure => omega
      case rel => exact ⟨i + 1, by omega, Nat.le_refl _, by go_num, ⟨by rw [HTK.out]; exact HO2.out⟩, HB2⟩
    · have b2 : decide ((i : Int) < (l.length : Int)) = false := decide_eq_false (by omega)
      have hr := HR.out
      rw [List.take_of_length_le (by omega)] at hr
      rcases str_open hr with ⟨rfl, hn⟩ | ⟨g, cap, rfl, hg, hcap, hcells⟩
      · have hl0 : l = [] := List.map_eq_nil_iff.mp hn
        have HX := Aside0.mk (show (⟨#[]⟩ : ByteArray) = textB l by rw [hl0]; rfl)
        have hj := HJ0.out none 0 sp1 wr
        clear hr hn hl0
        go_wp2_with (go_at_call 44; refine hj.mono ?_; rintro e w2 ⟨rfl, rfl⟩)
        go_ret
        exact ⟨by rw [← HX.out]; rfl, HB.out⟩
      · have hj := HJ.out g 0 cap (l.map pieceB) sp1 wr hcells hg (by simp; omega) hcap HLEN.out
        have HX := Aside0.mk (show (⟨(Lib.join ((l.map pieceB).map (·.data.toList)) sp1.data.toList).toArray⟩ : ByteArray) = textB l from rfl)
        clear hr hcells
        generalize (⟨(Lib.join ((l.map pieceB).map (·.data.toList)) sp1.data.toList).toArray⟩ : ByteArray) = tx at *
        generalize (l.map pieceB).length = n9 at *
        go_wp2_with (go_at_call 44; refine hj.mono ?_; rintro e w2 ⟨rfl, b2⟩)
        go_ret
        exact ⟨by rw [← HX.out]; rfl, below_go HB.out HB.out.size b2⟩
end Go.Proofs.Ytgdnljhndjlefaa.QNeedFits
