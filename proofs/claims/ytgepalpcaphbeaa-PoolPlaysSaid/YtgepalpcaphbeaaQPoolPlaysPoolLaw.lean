/- A pool of the laws' arguments, and calls on it. No conditions beyond those that each theorem names. -/
import Derived.Test.YtgepalpcaphbeaaQPoolPlaysPoolArgs
namespace Go.Proofs.Ytgepalpcaphbeaa.QPoolPlays
open Go.RowKit Go.Proofs.Ytgepalpcaphbeaa.PPoolPlays Go.Proofs.YtgepalpcaphbeaaW.PrintWords Go.Proofs.YtgepalpcaphbeaaW.PrintLast Go.Proofs.YtgepalpcaphbeaaW.PrintMore Go.Proofs.Ytgepalpcaphbeaa.MMaps
set_option linter.unusedVariables false
set_option linter.unusedSimpArgs false
set_option maxRecDepth 100000
def poolR (l : List Rs) : List Rs := newR (l.map toR)
theorem poolR_len (l : List Rs) : (poolR l).length ≤ l.length := by
  have := newR_len (l.map toR)
  rwa [List.length_map] at this
def ndL (L : List Nr) : List Nd := L.map toN
theorem New.of (A : Option Addr) (c : Nat) (l : List Rs) (w : World) (hC : Kd.C k59 w A (l.map toR).length (l.map toR)) (hc : l.length ≤ c) (hw : ∀ r ∈ l, wfR r) (hl : l.length ≤ 100000) :
    Calls Try.prog 9 #[.slice A l.length c] w fun e w' => ∃ p bt bh, e = .returned (.pointer (some ⟨p, 0, none⟩)) ∧ w.heap.size ≤ p ∧ w.heap.size ≤ bt ∧ w.heap.size ≤ bh ∧ PoolAt w' p bt bh (poolR l) [] ∧ Below w.heap.size w w' := by
  have := New.calls A c (l.map toR) w hC (by simpa using hc) (fun r hr => by obtain ⟨x, hx, rfl⟩ := List.mem_map.mp hr; exact hw x hx) (by simpa using hl)
  rw [List.length_map] at this
  exact this
theorem Take.of (p bt bh : Nat) (R : List Rs) (H : List Hd) (o : Int) (A : Option Addr) (c : Nat) (L : List Nr) (w : World) (h : PoolAt w p bt bh R H) (hC : Kd.C k61 w A (L.map toN).length (L.map toN)) (hc : L.length ≤ c) (hw : ∀ n ∈ L, wfN n) (ho : (Lit.int .i64 o).wf = true) (hl : L.length < 4398046511104) (hlen : H.length + R.length ≤ 100000) :
    Calls Try.prog 12 #[.pointer (some ⟨p, 0, none⟩), .int .i64 o, .slice A L.length c] w fun e w' => e = .returned (.int .i64 (mayOf R H o (ndL L))) ∧ PoolAt w' p bt bh R (takeOf R H o (ndL L)) ∧ w.grownBy w' (some bh) := by
  have := Take.calls p bt bh R H o A c (L.map toN) w h hC (by simpa using hc) (fun n hn => by obtain ⟨x, hx, rfl⟩ := List.mem_map.mp hn; exact (hw x hx).1) ho (by simp; omega) (fun hz => by have := takeOf_len' hz; omega)
  rw [List.length_map] at this
  exact this
theorem takeOf_mem {R : List Rs} {H : List Hd} {o : Int} {l : List Nd} {x : Hd} (h : x ∈ takeOf R H o l) : x ∈ H ∨ x.f0 = o := by
  unfold takeOf at h
  split at h
  · rcases (takes_mem o x l H).mp h with e | ⟨n, _, e⟩
    · exact .inl e
    · right; rw [e]; rfl
  · exact .inl h
theorem free_none (R : List Rs) (s : ByteArray) : freeOf R [] s = unitsOf R s := by
  unfold freeOf
  split
  · rename_i h
    unfold sumBy
    rw [Int.sub_zero, ← h]
  · rename_i h
    unfold unitsOf at *
    cases hf : findR R s with
    | none => rfl
    | some r =>
      rw [hf] at h
      dsimp only at h ⊢
      cases hb : r.f2 with
      | true => rfl
      | false => rw [hb] at h; exact absurd rfl h
end Go.Proofs.Ytgepalpcaphbeaa.QPoolPlays
