/- The laws' arguments, read: resources, needs, calls. No conditions beyond those that each theorem names. -/
import Derived.Test.YtgdnljhndjlefaaQNeedFitsPoolList
import Derived.Test.YtgdnljhndjlefaaMOpen
namespace Go.Proofs.Ytgdnljhndjlefaa.QNeedFits
open Go.RowKit Go.Proofs.Ytgdnljhndjlefaa.PNeedFits Go.Proofs.YtgdnljhndjlefaaW.PrintWords Go.Proofs.YtgdnljhndjlefaaW.PrintLast Go.Proofs.YtgdnljhndjlefaaW.PrintMore Go.Proofs.Ytgdnljhndjlefaa.MMaps
set_option linter.unusedVariables false
set_option linter.unusedSimpArgs false
set_option maxRecDepth 100000
/-- A need, as the reference has it. -/
abbrev Nr := S80
def toN (n : Nr) : Nd := ⟨n.f0, n.f1, n.f2⟩
def toR (r : Rs) : Rj := ⟨r.f0, r.f1, r.f2⟩
def wfR (r : Rs) : Prop := r.f0.size ≤ maxLen ∧ (Lit.int .i64 r.f1).wf = true
def wfN (n : Nr) : Prop := n.f0.size ≤ maxLen ∧ (Lit.int .i64 n.f1).wf = true ∧ (Lit.int .i64 n.f2).wf = true
theorem rd_res1 (w : World) (n : Nat) : Rd Try.prog w 47 k47 wfR n := by
  cases n with
  | zero => exact Rd.zero _ _
  | succ n =>
    have h := Rd.struct (P := Try.prog) (w := w) (n := n) Try.underlying47 (by kernel_rfl) (RdF.cons (off := 0) rfl (by kernel_rfl) (Rd.string Try.underlying9) (RdF.cons rfl (by kernel_rfl) (Rd.int Try.underlying2) (RdF.one rfl (by kernel_rfl) (Rd.bool Try.underlying4))))
    intro H enc cs x hx hw
    obtain ⟨⟨⟨a0, a1, a2⟩, hk, o0, o1, _⟩, h3⟩ := h H enc cs x hx hw
    exact ⟨⟨⟨a0, a1, a2⟩, hk, Nat.le_trans o0 (by decide), o1⟩, h3⟩
theorem rd_ress (w : World) (n : Nat) : Rd Try.prog w 22 (Kd.slice 47 k47) (fun l => l.length * 32 ≤ 140737488351232 ∧ ∀ c ∈ l, wfR c) n := by
  cases n with
  | zero => exact Rd.zero _ _
  | succ n =>
    have h := Rd.slice (w := w) (n := n) (d := k47) (Ok := wfR) Try.underlying22 (by kernel_rfl) (by decide) (rd_res1 w n)
    exact h.imp (fun l cs hk ho => ⟨hk, (show Try.prog.bytesOf 47 = 32 by kernel_rfl) ▸ ho.1, ho.2⟩)
theorem rd_need1 (w : World) (n : Nat) : Rd Try.prog w 80 k80 wfN n := by
  cases n with
  | zero => exact Rd.zero _ _
  | succ n =>
    have h := Rd.struct (P := Try.prog) (w := w) (n := n) Try.underlying80 (by kernel_rfl) (RdF.cons (off := 0) rfl (by kernel_rfl) (Rd.string Try.underlying9) (RdF.cons rfl (by kernel_rfl) (Rd.int Try.underlying2) (RdF.one rfl (by kernel_rfl) (Rd.int Try.underlying3))))
    intro H enc cs x hx hw
    obtain ⟨⟨⟨a0, a1, a2⟩, hk, o0, o1, o2⟩, h3⟩ := h H enc cs x hx hw
    exact ⟨⟨⟨a0, a1, a2⟩, hk, Nat.le_trans o0 (by decide), o1, o2⟩, h3⟩
theorem rd_needs (w : World) (n : Nat) : Rd Try.prog w 23 (Kd.slice 80 k80) (fun l => l.length * 32 ≤ 140737488351232 ∧ ∀ c ∈ l, wfN c) n := by
  cases n with
  | zero => exact Rd.zero _ _
  | succ n =>
    have h := Rd.slice (w := w) (n := n) (d := k80) (Ok := wfN) Try.underlying23 (by kernel_rfl) (by decide) (rd_need1 w n)
    exact h.imp (fun l cs hk ho => ⟨hk, (show Try.prog.bytesOf 80 = 32 by kernel_rfl) ▸ ho.1, ho.2⟩)
theorem rdnr_at (L : List Nr) (i : Nat) (h : i < L.length) : rd_T80 L (i : Int) = L[i] := by
  unfold rd_T80
  rw [Int.toNat_natCast]
  simp [List.getD, List.getElem?_eq_getElem h]
theorem rdrs_at (L : List Rs) (i : Nat) (h : i < L.length) : rd_T47 L (i : Int) = L[i] := by
  unfold rd_T47
  rw [Int.toNat_natCast]
  simp [List.getD, List.getElem?_eq_getElem h]
theorem needs_l0 (L : List Nr) (hl : L.length < 4398046511104) : ∀ (d i k : Nat), i + d = L.length → d + 1 ≤ k → dayshiftlaw14_needs.l0 k L ((L.take i).map toN) (i : Int) = some (L.map toN) := by
  intro d
  induction d with
  | zero =>
    intro i k hi hk
    obtain ⟨k, rfl⟩ : ∃ q, k = q + 1 := ⟨k - 1, by omega⟩
    rw [dayshiftlaw14_needs.l0.eq_2, if_neg (by omega), List.take_of_length_le (by omega)]
  | succ d ih =>
    intro i k hi hk
    obtain ⟨k, rfl⟩ : ∃ q, k = q + 1 := ⟨k - 1, by omega⟩
    rw [dayshiftlaw14_needs.l0.eq_2, if_pos (by omega), if_pos (by omega), if_pos (by simp; omega), rdnr_at L i (by omega), wrap64_id (by omega) (by omega)]
    have e : (L.take i).map toN ++ [(⟨L[i].f0, L[i].f1, L[i].f2⟩ : Nd)] = (L.take (i + 1)).map toN := by
      rw [List.take_succ_eq_append_getElem (by omega), List.map_append]; rfl
    rw [e]
    exact ih (i + 1) k (by omega) (by omega)
theorem needs.calls (A0 : Option Addr) (c0 : Nat) (L : List Nr) (w : World) (h : Kd.C k80 w A0 L.length L) (hc : L.length ≤ c0) (hl : L.length < 4398046511104) :
    Calls Try.prog 13 #[.slice A0 L.length c0] w fun e w' => ∃ v, e = .returned v ∧ Kd.R k52 52 w' w.heap.size (fun _ => True) v (L.map toN) ∧ Below w.heap.size w w' :=
  dayshiftlaw14_needs.calls (L.length + 1) A0 c0 L (L.map toN) w h hc (needs_l0 L hl L.length 0 (L.length + 1) (by omega) (by omega))
theorem res_l0 (L : List Rs) (hl : L.length < 4398046511104) : ∀ (d i k : Nat), i + d = L.length → d + 1 ≤ k → dayshiftlaw14_res.l0 k L ((L.take i).map toR) (i : Int) = some (L.map toR) := by
  intro d
  induction d with
  | zero =>
    intro i k hi hk
    obtain ⟨k, rfl⟩ : ∃ q, k = q + 1 := ⟨k - 1, by omega⟩
    rw [dayshiftlaw14_res.l0.eq_2, if_neg (by omega), List.take_of_length_le (by omega)]
  | succ d ih =>
    intro i k hi hk
    obtain ⟨k, rfl⟩ : ∃ q, k = q + 1 := ⟨k - 1, by omega⟩
    rw [dayshiftlaw14_res.l0.eq_2, if_pos (by omega), if_pos (by omega), if_pos (by simp; omega), rdrs_at L i (by omega), wrap64_id (by omega) (by omega)]
    have e : (L.take i).map toR ++ [(⟨L[i].f0, L[i].f1, L[i].f2⟩ : Rj)] = (L.take (i + 1)).map toR := by
      rw [List.take_succ_eq_append_getElem (by omega), List.map_append]; rfl
    rw [e]
    exact ih (i + 1) k (by omega) (by omega)
theorem res.calls (A0 : Option Addr) (c0 : Nat) (L : List Rs) (w : World) (h : Kd.C k47 w A0 L.length L) (hc : L.length ≤ c0) (hl : L.length < 4398046511104) :
    Calls Try.prog 10 #[.slice A0 L.length c0] w fun e w' => ∃ v, e = .returned v ∧ Kd.R k64 64 w' w.heap.size (fun _ => True) v (L.map toR) ∧ Below w.heap.size w w' :=
  dayshiftlaw14_res.calls (L.length + 1) A0 c0 L (L.map toR) w h hc (res_l0 L hl L.length 0 (L.length + 1) (by omega) (by omega))
/-! ### No more is taken than there are resources -/
theorem findR_some {R : List Rs} {s : ByteArray} {r : Rs} (h : findR R s = some r) : r ∈ R ∧ r.f0 = s := by
  unfold findR at h
  exact ⟨List.mem_of_find?_eq_some h, eqS_iff.mp (List.find?_some (p := fun r : Rs => eqS r.f0 s) h)⟩
open Classical in
theorem rights_le {R : List Rs} {l : List Nd} (h : rights R [] l = 0) : l.length ≤ R.length := by
  have h1 : (l.map (·.f0)).Nodup := by
    refine List.pairwise_iff_getElem.mpr (fun i j hi hj hij => ?_)
    rw [List.getElem_map, List.getElem_map]
    have hj' : j < l.length := by simpa using hj
    have hi' : i < l.length := by simpa using hi
    exact (right1_is (right1_at h j hj')).2 l[i] (List.mem_iff_getElem?.mpr ⟨i, by rw [List.getElem?_take, if_pos hij, List.getElem?_eq_getElem hi']⟩)
  have h2 : ∀ x ∈ l.map (·.f0), x ∈ R.map (·.f0) := fun x hx => by
    obtain ⟨n, hn, rfl⟩ := List.mem_map.mp hx
    obtain ⟨r, hr, _⟩ := rights_ok h n hn
    exact List.mem_map.mpr ⟨r, (findR_some hr).1, (findR_some hr).2⟩
  have := nodup_len _ _ h1 h2
  simpa using this
theorem takeOf_len (R : List Rs) (H : List Hd) (o : Int) (l : List Nd) : (takeOf R H o l).length ≤ H.length + R.length := by
  unfold takeOf
  split
  · rename_i h
    rw [takes_length]
    have := rights_le (may_can h).ok
    omega
  · omega
theorem takeOf_len' {R : List Rs} {H : List Hd} {o : Int} {l : List Nd} (h : mayOf R H o l = 0) : l.length ≤ R.length := rights_le (may_can h).ok
theorem newR_len (l : List Rj) : (newR l).length ≤ l.length := by
  have := newR_length l l.length (Nat.le_refl _)
  rwa [List.take_of_length_le (Nat.le_refl _)] at this
end Go.Proofs.Ytgdnljhndjlefaa.QNeedFits

/- A pool of the laws' arguments, and calls on it. No conditions beyond those that each theorem names. -/
namespace Go.Proofs.Ytgdnljhndjlefaa.QNeedFits
open Go.RowKit Go.Proofs.Ytgdnljhndjlefaa.PNeedFits Go.Proofs.YtgdnljhndjlefaaW.PrintWords Go.Proofs.YtgdnljhndjlefaaW.PrintLast Go.Proofs.YtgdnljhndjlefaaW.PrintMore Go.Proofs.Ytgdnljhndjlefaa.MMaps
set_option linter.unusedVariables false
set_option linter.unusedSimpArgs false
set_option maxRecDepth 100000
def poolR (l : List Rs) : List Rs := newR (l.map toR)
theorem poolR_len (l : List Rs) : (poolR l).length ≤ l.length := by
  have := newR_len (l.map toR)
  rwa [List.length_map] at this
def ndL (L : List Nr) : List Nd := L.map toN
theorem New.of (A : Option Addr) (c : Nat) (l : List Rs) (w : World) (hC : Kd.C k64 w A (l.map toR).length (l.map toR)) (hc : l.length ≤ c) (hw : ∀ r ∈ l, wfR r) (hl : l.length ≤ 100000) :
    Calls Try.prog 9 #[.slice A l.length c] w fun e w' => ∃ p bt bh, e = .returned (.pointer (some ⟨p, 0, none⟩)) ∧ w.heap.size ≤ p ∧ w.heap.size ≤ bt ∧ w.heap.size ≤ bh ∧ PoolAt w' p bt bh (poolR l) [] ∧ Below w.heap.size w w' := by
  have := New.calls A c (l.map toR) w hC (by simpa using hc) (fun r hr => by obtain ⟨x, hx, rfl⟩ := List.mem_map.mp hr; exact hw x hx) (by simpa using hl)
  rw [List.length_map] at this
  exact this
theorem Take.of (p bt bh : Nat) (R : List Rs) (H : List Hd) (o : Int) (A : Option Addr) (c : Nat) (L : List Nr) (w : World) (h : PoolAt w p bt bh R H) (hC : Kd.C k52 w A (L.map toN).length (L.map toN)) (hc : L.length ≤ c) (hw : ∀ n ∈ L, wfN n) (ho : (Lit.int .i64 o).wf = true) (hl : L.length < 4398046511104) (hlen : H.length + R.length ≤ 100000) :
    Calls Try.prog 12 #[.pointer (some ⟨p, 0, none⟩), .int .i64 o, .slice A L.length c] w fun e w' => e = .returned (.int .i64 (mayOf R H o (ndL L))) ∧ PoolAt w' p bt bh R (takeOf R H o (ndL L)) ∧ w.grownBy w' (some bh) := by
  have := Take.calls p bt bh R H o A c (L.map toN) w h hC (by simpa using hc) (fun n hn => by obtain ⟨x, hx, rfl⟩ := List.mem_map.mp hn; exact (hw x hx).1) ho (by simp; omega) (fun hz => by have := takeOf_len' hz; omega)
  rw [List.length_map] at this
  exact this
theorem takeOf_mem {R : List Rs} {H : List Hd} {o : Int} {l : List Nd} {x : Hd} (h : x ∈ takeOf R H o l) : x ∈ H ∨ x.f0 = o := by
  unfold takeOf at h
  split at h
  · rcases (takes_mem o x l H).mp h with e | ⟨n, _, e⟩
    · exact .inl e
    · right; rw [e]; rfl
  · exact .inl h
theorem free_none (R : List Rs) (s : ByteArray) : freeOf R [] s = unitsOf R s := by
  unfold freeOf
  split
  · rename_i h
    unfold sumBy
    rw [Int.sub_zero, ← h]
  · rename_i h
    unfold unitsOf at *
    cases hf : findR R s with
    | none => rfl
    | some r =>
      rw [hf] at h
      dsimp only at h ⊢
      cases hb : r.f2 with
      | true => rfl
      | false => rw [hb] at h; exact absurd rfl h
end Go.Proofs.Ytgdnljhndjlefaa.QNeedFits
