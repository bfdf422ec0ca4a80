/- What each round of the law PoolPlays leaves; a copy that goes on; the comparison of what is held. No conditions beyond those that each theorem names. -/
import Derived.Test.YtgepalpcaphbeaaQPoolPlaysPoolDo
namespace Go.Proofs.Ytgepalpcaphbeaa.QPoolPlays
open Go.RowKit Go.Proofs.Ytgepalpcaphbeaa.PPoolPlays Go.Proofs.YtgepalpcaphbeaaW.PrintWords Go.Proofs.YtgepalpcaphbeaaW.PrintLast Go.Proofs.YtgepalpcaphbeaaW.PrintMore Go.Proofs.Ytgepalpcaphbeaa.MMaps
set_option linter.unusedVariables false
set_option linter.unusedSimpArgs false
set_option maxRecDepth 100000
theorem rdhp_at (L : List Hp) (i : Nat) (h : i < L.length) : rd_T40 L (i : Int) = L[i] := by
  unfold rd_T40
  rw [Int.toNat_natCast]
  simp [List.getD, List.getElem?_eq_getElem h]
theorem same_l0 (H : List Hd) (hl : H.length ≤ 100000) : ∀ (d i k : Nat), i + d = H.length → d + 1 ≤ k → dayshiftlaw13_same.l0 k (H.map toP) H (i : Int) = some true := by
  intro d
  induction d with
  | zero =>
    intro i k hi hk
    obtain ⟨k, rfl⟩ : ∃ q, k = q + 1 := ⟨k - 1, by omega⟩
    rw [dayshiftlaw13_same.l0.eq_2, if_neg (by simp; omega)]
  | succ d ih =>
    intro i k hi hk
    obtain ⟨k, rfl⟩ : ∃ q, k = q + 1 := ⟨k - 1, by omega⟩
    have e : rd_T40 (H.map toP) (i : Int) = toP H[i] := by rw [rdhp_at _ i (by simp; omega), List.getElem_map]
    rw [dayshiftlaw13_same.l0.eq_2, if_pos (by simp; omega), if_pos (by omega), if_pos (by omega), e, rdhd_at H i (by omega), if_pos (show (toP H[i]).f0 = H[i].f0 from rfl), if_pos (show (toP H[i]).f1.toList = H[i].f1.toList from rfl), if_pos (show (toP H[i]).f2 = H[i].f2 from rfl), if_pos (show (toP H[i]).f3 = H[i].f3 from rfl), wrap64_id (by omega) (by omega)]
    exact ih (i + 1) k (by omega) (by omega)
theorem same.calls (H : List Hd) (hl : H.length ≤ 100000) (A1 A2 : Option Addr) (c1 c2 : Nat) (w : World) (h1 : Kd.C k40 w A1 (H.map toP).length (H.map toP)) (h1c : H.length ≤ c1) (h2 : Kd.C k55 w A2 H.length H) (h2c : H.length ≤ c2) :
    Calls Try.prog 18 #[.slice A1 H.length c1, .slice A2 H.length c2] w fun e w' => e = .returned (.bool true) ∧ Drawn0 w w' := by
  have := dayshiftlaw13_same.calls (H.length + 1) A1 c1 (H.map toP) A2 c2 H true w h1 (by simpa using h1c) h2 h2c (by unfold dayshiftlaw13_same.f; rw [if_pos (by simp)]; exact same_l0 H hl H.length 0 (H.length + 1) (by omega) (by omega))
  rw [List.length_map] at this
  exact this
theorem resizeR_len (R : List Rs) (s : ByteArray) (n : Int) : (resizeR R s n).length = R.length := by
  unfold resizeR setU
  split
  · rw [List.length_map]
  · rfl
theorem doR_len (a : Turn) (R : List Rs) : (doR a R).length = R.length := by
  unfold doR
  split
  · exact resizeR_len _ _ _
  · rfl
theorem giveOf_len (H : List Hd) (o : Int) : (giveOf H o).length ≤ H.length := List.length_filter_le _ _
theorem doH_len (a : Turn) (R : List Rs) (H : List Hd) : (doH a R H).length ≤ H.length + R.length := by
  unfold doH
  split
  · exact takeOf_len _ _ _ _
  · split
    · exact Nat.le_trans (giveOf_len _ _) (Nat.le_add_right _ _)
    · exact Nat.le_add_right _ _
/-- Where the reference's lists may lie. -/
def okP (w : World) (r p bt bh : Nat) : Nat → Prop := fun k => w.heap.size ≤ k ∧ k ≠ r ∧ k ≠ p ∧ k ≠ bt ∧ k ≠ bh
/-- What is so in each round. -/
structure Turns (w wr : World) (r p bt bh : Nat) (R : List Rs) (H : List Hd) : Prop where
  both : Both wr p bt bh r (okP w r p bt bh) R H
  below : Below w.heap.size w wr
  bp : w.heap.size ≤ p
  bbt : w.heap.size ≤ bt
  bbh : w.heap.size ≤ bh
  br : w.heap.size ≤ r
theorem Turns.go {w w1 w2 : World} {r p bt bh : Nat} {R : List Rs} {H : List Hd} (h : Turns w w1 r p bt bh R H) (hb : Below w1.heap.size w1 w2) : Turns w w2 r p bt bh R H :=
  ⟨h.both.below hb, below_go h.below h.below.size hb, h.bp, h.bbt, h.bbh, h.br⟩
theorem Turns.okNew {w w1 : World} {r p bt bh : Nat} {R : List Rs} {H : List Hd} (h : Turns w w1 r p bt bh R H) : ∀ j, w1.heap.size ≤ j → okP w r p bt bh j := fun j hj =>
  ⟨Nat.le_trans h.below.size hj, by have := h.both.ref.lt; omega, by have := h.both.pool.ltp; omega, by have := h.both.pool.things.lt; omega, by have := h.both.pool.held.lt; omega⟩
/-- A copy goes on; the old pool gives back what it holds. -/
structure Old (w w1 wr : World) (r p bt bh p' bt' bh' x : Nat) (R : List Rs) (H : List Hd) : Prop where
  was : ∃ M, PoolAt wr p bt bh R M
  pool : PoolAt wr p' bt' bh' R H
  ref : RefAt wr r (fun k => okP w r p bt bh k ∧ k < w1.heap.size) R H
  below : Below w.heap.size w wr
  turn : Turns w w1 r p bt bh R H
  pn : w1.heap.size ≤ p'
  tn : w1.heap.size ≤ bt'
  hn : w1.heap.size ≤ bh'
  xn : x < w1.heap.size
  xh : x ≠ bh
  box : wr.heap[x]? = w1.heap[x]?
theorem Old.start {w w1 w2 : World} {r p bt bh p' bt' bh' x : Nat} {R : List Rs} {H : List Hd} (h : Turns w w1 r p bt bh R H) (h1 : w1.heap.size ≤ p') (h2 : w1.heap.size ≤ bt') (h3 : w1.heap.size ≤ bh') (hP : PoolAt w2 p' bt' bh' R H) (hb : Below w1.heap.size w1 w2) (hx : x < w1.heap.size) (hxh : x ≠ bh) : Old w w1 w2 r p bt bh p' bt' bh' x R H :=
  ⟨⟨H, h.both.pool.below hb⟩, hP, (h.both.ref.mono (fun k a b => ⟨a, b⟩)).below hb, below_go h.below h.below.size hb, h, h1, h2, h3, hx, hxh, hb.block x hx⟩
theorem Old.step {w w1 w2 w3 : World} {r p bt bh p' bt' bh' x : Nat} {R : List Rs} {H M : List Hd} (h : Old w w1 w2 r p bt bh p' bt' bh' x R H) (hP : PoolAt w3 p bt bh R M) (hg : w2.grownBy w3 (some bh)) : Old w w1 w3 r p bt bh p' bt' bh' x R H := by
  have l1 := h.turn.both.pool.held.lt
  have l2 := h.turn.both.ref.lt
  have l3 := h.pool.ltp
  have s1 := h.pn
  have s2 := h.tn
  have s3 := h.hn
  have n1 := h.turn.both.hr
  obtain ⟨M0, hM0⟩ := h.was
  refine ⟨⟨M, hP⟩, h.pool.kept hg (by simp; omega) (by simp; omega) (by simp; omega), h.ref.grown hg (by simpa using n1.symm) (fun k hk e => by injection e with e; exact hk.1.2.2.2.2 e), h.below.trans (grown_below hg h.turn.bbh h.below.size), h.turn, s1, s2, s3, h.xn, h.xh, (hg.block x ?_ (by simpa using h.xh)).trans h.box⟩
  have := h.box
  have hx := h.xn
  have hz : w2.heap[x]? = some w1.heap[x] := by rw [this]; exact Array.getElem?_eq_getElem hx
  exact blk_lt hz
theorem Old.done {w w1 w2 : World} {r p bt bh p' bt' bh' x : Nat} {R : List Rs} {H : List Hd} (h : Old w w1 w2 r p bt bh p' bt' bh' x R H) : Turns w w2 r p' bt' bh' R H := by
  have s1 := h.pn
  have s2 := h.tn
  have s3 := h.hn
  have l2 := h.turn.both.ref.lt
  have l4 := h.turn.below.size
  exact ⟨⟨h.pool, h.ref.mono (fun k hk _ => ⟨hk.1.1, hk.1.2.1, by omega, by omega, by omega⟩), by omega, by omega, by omega, fun k => k.2.1 rfl, fun k => k.2.2.1 rfl, fun k => k.2.2.2.1 rfl, fun k => k.2.2.2.2 rfl⟩, h.below, by omega, by omega, by omega, h.turn.br⟩
end Go.Proofs.Ytgepalpcaphbeaa.QPoolPlays
