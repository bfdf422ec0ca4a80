/- The laws' arguments, read: resources, needs, calls. No conditions beyond those that each theorem names. -/
import Derived.Test.YtgepalpcaphbeaaQPoolPlaysPoolKnown
import Derived.Test.YtgepalpcaphbeaaMOpen
namespace Go.Proofs.Ytgepalpcaphbeaa.QPoolPlays
open Go.RowKit Go.Proofs.Ytgepalpcaphbeaa.PPoolPlays Go.Proofs.YtgepalpcaphbeaaW.PrintWords Go.Proofs.YtgepalpcaphbeaaW.PrintLast Go.Proofs.YtgepalpcaphbeaaW.PrintMore Go.Proofs.Ytgepalpcaphbeaa.MMaps
set_option linter.unusedVariables false
set_option linter.unusedSimpArgs false
set_option maxRecDepth 100000
/-- A need, as the reference has it. -/
abbrev Nr := S74
def toN (n : Nr) : Nd := ⟨n.f0, n.f1, n.f2⟩
def toR (r : Rs) : Rj := ⟨r.f0, r.f1, r.f2⟩
def wfR (r : Rs) : Prop := r.f0.size ≤ maxLen ∧ (Lit.int .i64 r.f1).wf = true
def wfN (n : Nr) : Prop := n.f0.size ≤ maxLen ∧ (Lit.int .i64 n.f1).wf = true ∧ (Lit.int .i64 n.f2).wf = true
theorem rd_res1 (w : World) (n : Nat) : Rd Try.prog w 53 k53 wfR n := by
  cases n with
  | zero => exact Rd.zero _ _
  | succ n =>
    have h := Rd.struct (P := Try.prog) (w := w) (n := n) Try.underlying53 (by kernel_rfl) (RdF.cons (off := 0) rfl (by kernel_rfl) (Rd.string Try.underlying9) (RdF.cons rfl (by kernel_rfl) (Rd.int Try.underlying2) (RdF.one rfl (by kernel_rfl) (Rd.bool Try.underlying4))))
    intro H enc cs x hx hw
    obtain ⟨⟨⟨a0, a1, a2⟩, hk, o0, o1, _⟩, h3⟩ := h H enc cs x hx hw
    exact ⟨⟨⟨a0, a1, a2⟩, hk, Nat.le_trans o0 (by decide), o1⟩, h3⟩
theorem rd_ress (w : World) (n : Nat) : Rd Try.prog w 22 (Kd.slice 53 k53) (fun l => l.length * 32 ≤ 140737488351232 ∧ ∀ c ∈ l, wfR c) n := by
  cases n with
  | zero => exact Rd.zero _ _
  | succ n =>
    have h := Rd.slice (w := w) (n := n) (d := k53) (Ok := wfR) Try.underlying22 (by kernel_rfl) (by decide) (rd_res1 w n)
    exact h.imp (fun l cs hk ho => ⟨hk, (show Try.prog.bytesOf 53 = 32 by kernel_rfl) ▸ ho.1, ho.2⟩)
theorem rd_need1 (w : World) (n : Nat) : Rd Try.prog w 74 k74 wfN n := by
  cases n with
  | zero => exact Rd.zero _ _
  | succ n =>
    have h := Rd.struct (P := Try.prog) (w := w) (n := n) Try.underlying74 (by kernel_rfl) (RdF.cons (off := 0) rfl (by kernel_rfl) (Rd.string Try.underlying9) (RdF.cons rfl (by kernel_rfl) (Rd.int Try.underlying2) (RdF.one rfl (by kernel_rfl) (Rd.int Try.underlying3))))
    intro H enc cs x hx hw
    obtain ⟨⟨⟨a0, a1, a2⟩, hk, o0, o1, o2⟩, h3⟩ := h H enc cs x hx hw
    exact ⟨⟨⟨a0, a1, a2⟩, hk, Nat.le_trans o0 (by decide), o1, o2⟩, h3⟩
theorem rd_needs (w : World) (n : Nat) : Rd Try.prog w 29 (Kd.slice 74 k74) (fun l => l.length * 32 ≤ 140737488351232 ∧ ∀ c ∈ l, wfN c) n := by
  cases n with
  | zero => exact Rd.zero _ _
  | succ n =>
    have h := Rd.slice (w := w) (n := n) (d := k74) (Ok := wfN) Try.underlying29 (by kernel_rfl) (by decide) (rd_need1 w n)
    exact h.imp (fun l cs hk ho => ⟨hk, (show Try.prog.bytesOf 74 = 32 by kernel_rfl) ▸ ho.1, ho.2⟩)
/-- A call. -/
structure Turn where
  kind : Int
  owner : Int
  l : List Nr
  name : ByteArray
  n : Int
def zT : Turn := ⟨0, 0, [], ⟨#[]⟩, 0⟩
def kA : Kd Turn := Kd.iso (Kd.pair (Kd.int .i64) (Kd.pair (Kd.int .i64) (Kd.pair (Kd.slice 74 k74) (Kd.pair Kd.string (Kd.int .i64))))) (fun x : Turn => (x.kind, x.owner, x.l, x.name, x.n))
def wfT (a : Turn) : Prop := (Lit.int .i64 a.kind).wf = true ∧ (Lit.int .i64 a.owner).wf = true ∧ (a.l.length * 32 ≤ 140737488351232 ∧ ∀ c ∈ a.l, wfN c) ∧ a.name.size ≤ maxLen ∧ (Lit.int .i64 a.n).wf = true
theorem kA_open {w : World} {x : Turn} {cs : List Value} (h : kA.K w x cs) : ∃ A c, cs = [.int .i64 x.kind, .int .i64 x.owner, .slice A x.l.length c, .string x.name, .int .i64 x.n] ∧ x.l.length ≤ c ∧ Kd.C k74 w A x.l.length x.l := by
  obtain ⟨_, _, rfl, rfl, _, _, rfl, rfl, _, _, rfl, ⟨A, c, rfl, hc, hC⟩, _, _, rfl, rfl, rfl⟩ := h
  exact ⟨A, c, rfl, hc, hC⟩
theorem at_A {w : World} {A : Option Addr} {xs : List Turn} (h : Kd.C kA w A xs.length xs) (i : Nat) (h1 : i < xs.length) : ∃ ad B c, A = some ad ∧ w.cell? (ad.add (i * 5)) = some (.int .i64 xs[i].kind) ∧ w.cell? ⟨(ad.add (i * 5)).block, (ad.add (i * 5)).off + 1, none⟩ = some (.int .i64 xs[i].owner) ∧ w.cell? ⟨(ad.add (i * 5)).block, (ad.add (i * 5)).off + 2, none⟩ = some (.slice B xs[i].l.length c) ∧ w.cell? ⟨(ad.add (i * 5)).block, (ad.add (i * 5)).off + 3, none⟩ = some (.string xs[i].name) ∧ w.cell? ⟨(ad.add (i * 5)).block, (ad.add (i * 5)).off + 4, none⟩ = some (.int .i64 xs[i].n) ∧ xs[i].l.length ≤ c ∧ Kd.C k74 w B xs[i].l.length xs[i].l := by
  obtain ⟨ad, c, e, _, hK, hc0⟩ := Kd.C_get h zT (i : Int) (by omega) (by omega)
  have hx : xs.getD (i : Int).toNat zT = xs[i] := by simp [List.getD, List.getElem?_eq_getElem h1]
  rw [hx] at hK
  have hc : ∀ j u, c[j]? = some u → w.cell? (ad.add (i * 5 + j)) = some u := by rw [Int.toNat_natCast] at hc0; exact hc0
  obtain ⟨B, cc, rfl, hcc, hC⟩ := kA_open hK
  exact ⟨ad, B, cc, e, hc 0 _ rfl, by rw [← add_field _ _ 1 (by omega)]; exact hc 1 _ rfl, by rw [← add_field _ _ 2 (by omega)]; exact hc 2 _ rfl, by rw [← add_field _ _ 3 (by omega)]; exact hc 3 _ rfl, by rw [← add_field _ _ 4 (by omega)]; exact hc 4 _ rfl, hcc, hC⟩
theorem rd_act (w : World) (n : Nat) : Rd Try.prog w 31 kA wfT n := by
  cases n with
  | zero => exact Rd.zero _ _
  | succ n =>
    have h := Rd.struct (P := Try.prog) (w := w) (n := n) Try.underlying31 (by kernel_rfl) (RdF.cons (off := 0) rfl (by kernel_rfl) (Rd.int Try.underlying3) (RdF.cons rfl (by kernel_rfl) (Rd.int Try.underlying2) (RdF.cons rfl (by kernel_rfl) (rd_needs w n) (RdF.cons rfl (by kernel_rfl) (Rd.string Try.underlying9) (RdF.one rfl (by kernel_rfl) (Rd.int Try.underlying2))))))
    intro H enc cs x hx hw
    obtain ⟨⟨⟨a0, a1, a2, a3, a4⟩, hk, o0, o1, o2, o3, o4⟩, h3⟩ := h H enc cs x hx hw
    exact ⟨⟨⟨a0, a1, a2, a3, a4⟩, hk, o0, o1, o2, Nat.le_trans o3 (by decide), o4⟩, h3⟩
theorem rd_acts (w : World) (n : Nat) : Rd Try.prog w 23 (Kd.slice 31 kA) (fun l => l.length * 64 ≤ 140737488351232 ∧ ∀ a ∈ l, wfT a) n := by
  cases n with
  | zero => exact Rd.zero _ _
  | succ n =>
    have h := Rd.slice (w := w) (n := n) (d := kA) (Ok := wfT) Try.underlying23 (by kernel_rfl) (by decide) (rd_act w n)
    exact h.imp (fun l cs hk ho => ⟨hk, (show Try.prog.bytesOf 31 = 64 by kernel_rfl) ▸ ho.1, ho.2⟩)
theorem rdnr_at (L : List Nr) (i : Nat) (h : i < L.length) : rd_T74 L (i : Int) = L[i] := by
  unfold rd_T74
  rw [Int.toNat_natCast]
  simp [List.getD, List.getElem?_eq_getElem h]
theorem rdrs_at (L : List Rs) (i : Nat) (h : i < L.length) : rd_T53 L (i : Int) = L[i] := by
  unfold rd_T53
  rw [Int.toNat_natCast]
  simp [List.getD, List.getElem?_eq_getElem h]
theorem needs_l0 (L : List Nr) (hl : L.length < 4398046511104) : ∀ (d i k : Nat), i + d = L.length → d + 1 ≤ k → dayshiftlaw13_needs.l0 k L ((L.take i).map toN) (i : Int) = some (L.map toN) := by
  intro d
  induction d with
  | zero =>
    intro i k hi hk
    obtain ⟨k, rfl⟩ : ∃ q, k = q + 1 := ⟨k - 1, by omega⟩
    rw [dayshiftlaw13_needs.l0.eq_2, if_neg (by omega), List.take_of_length_le (by omega)]
  | succ d ih =>
    intro i k hi hk
    obtain ⟨k, rfl⟩ : ∃ q, k = q + 1 := ⟨k - 1, by omega⟩
    rw [dayshiftlaw13_needs.l0.eq_2, if_pos (by omega), if_pos (by omega), if_pos (by simp; omega), rdnr_at L i (by omega), wrap64_id (by omega) (by omega)]
    have e : (L.take i).map toN ++ [(⟨L[i].f0, L[i].f1, L[i].f2⟩ : Nd)] = (L.take (i + 1)).map toN := by
      rw [List.take_succ_eq_append_getElem (by omega), List.map_append]; rfl
    rw [e]
    exact ih (i + 1) k (by omega) (by omega)
theorem needs.calls (A0 : Option Addr) (c0 : Nat) (L : List Nr) (w : World) (h : Kd.C k74 w A0 L.length L) (hc : L.length ≤ c0) (hl : L.length < 4398046511104) :
    Calls Try.prog 13 #[.slice A0 L.length c0] w fun e w' => ∃ v, e = .returned v ∧ Kd.R k61 61 w' w.heap.size (fun _ => True) v (L.map toN) ∧ Below w.heap.size w w' :=
  dayshiftlaw13_needs.calls (L.length + 1) A0 c0 L (L.map toN) w h hc (needs_l0 L hl L.length 0 (L.length + 1) (by omega) (by omega))
theorem res_l0 (L : List Rs) (hl : L.length < 4398046511104) : ∀ (d i k : Nat), i + d = L.length → d + 1 ≤ k → dayshiftlaw13_res.l0 k L ((L.take i).map toR) (i : Int) = some (L.map toR) := by
  intro d
  induction d with
  | zero =>
    intro i k hi hk
    obtain ⟨k, rfl⟩ : ∃ q, k = q + 1 := ⟨k - 1, by omega⟩
    rw [dayshiftlaw13_res.l0.eq_2, if_neg (by omega), List.take_of_length_le (by omega)]
  | succ d ih =>
    intro i k hi hk
    obtain ⟨k, rfl⟩ : ∃ q, k = q + 1 := ⟨k - 1, by omega⟩
    rw [dayshiftlaw13_res.l0.eq_2, if_pos (by omega), if_pos (by omega), if_pos (by simp; omega), rdrs_at L i (by omega), wrap64_id (by omega) (by omega)]
    have e : (L.take i).map toR ++ [(⟨L[i].f0, L[i].f1, L[i].f2⟩ : Rj)] = (L.take (i + 1)).map toR := by
      rw [List.take_succ_eq_append_getElem (by omega), List.map_append]; rfl
    rw [e]
    exact ih (i + 1) k (by omega) (by omega)
theorem res.calls (A0 : Option Addr) (c0 : Nat) (L : List Rs) (w : World) (h : Kd.C k53 w A0 L.length L) (hc : L.length ≤ c0) (hl : L.length < 4398046511104) :
    Calls Try.prog 10 #[.slice A0 L.length c0] w fun e w' => ∃ v, e = .returned v ∧ Kd.R k59 59 w' w.heap.size (fun _ => True) v (L.map toR) ∧ Below w.heap.size w w' :=
  dayshiftlaw13_res.calls (L.length + 1) A0 c0 L (L.map toR) w h hc (res_l0 L hl L.length 0 (L.length + 1) (by omega) (by omega))
/-! ### No more is taken than there are resources -/
theorem findR_some {R : List Rs} {s : ByteArray} {r : Rs} (h : findR R s = some r) : r ∈ R ∧ r.f0 = s := by
  unfold findR at h
  exact ⟨List.mem_of_find?_eq_some h, eqS_iff.mp (List.find?_some (p := fun r : Rs => eqS r.f0 s) h)⟩
open Classical in
theorem rights_le {R : List Rs} {l : List Nd} (h : rights R [] l = 0) : l.length ≤ R.length := by
  have h1 : (l.map (·.f0)).Nodup := by
    refine List.pairwise_iff_getElem.mpr (fun i j hi hj hij => ?_)
    rw [List.getElem_map, List.getElem_map]
    have hj' : j < l.length := by simpa using hj
    have hi' : i < l.length := by simpa using hi
    exact (right1_is (right1_at h j hj')).2 l[i] (List.mem_iff_getElem?.mpr ⟨i, by rw [List.getElem?_take, if_pos hij, List.getElem?_eq_getElem hi']⟩)
  have h2 : ∀ x ∈ l.map (·.f0), x ∈ R.map (·.f0) := fun x hx => by
    obtain ⟨n, hn, rfl⟩ := List.mem_map.mp hx
    obtain ⟨r, hr, _⟩ := rights_ok h n hn
    exact List.mem_map.mpr ⟨r, (findR_some hr).1, (findR_some hr).2⟩
  have := nodup_len _ _ h1 h2
  simpa using this
theorem takeOf_len (R : List Rs) (H : List Hd) (o : Int) (l : List Nd) : (takeOf R H o l).length ≤ H.length + R.length := by
  unfold takeOf
  split
  · rename_i h
    rw [takes_length]
    have := rights_le (may_can h).ok
    omega
  · omega
theorem takeOf_len' {R : List Rs} {H : List Hd} {o : Int} {l : List Nd} (h : mayOf R H o l = 0) : l.length ≤ R.length := rights_le (may_can h).ok
theorem newR_len (l : List Rj) : (newR l).length ≤ l.length := by
  have := newR_length l l.length (Nat.le_refl _)
  rwa [List.take_of_length_le (Nat.le_refl _)] at this
end Go.Proofs.Ytgepalpcaphbeaa.QPoolPlays
