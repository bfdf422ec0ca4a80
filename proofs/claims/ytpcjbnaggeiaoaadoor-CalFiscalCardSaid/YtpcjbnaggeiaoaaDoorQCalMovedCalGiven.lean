/- The law's arguments as the program has them: given, cals, with enough rounds. No conditions beyond those that each theorem names. -/
import Derived.Test.YtpcjbnaggeiaoaaDoorQCalMovedCalTot5
namespace Go.Proofs.YtpcjbnaggeiaoaaDoor.QCalMoved
open Go.RowKit Go.Proofs.YtpcjbnaggeiaoaaDoor.PCalMoved Go.Proofs.YtpcjbnaggeiaoaaDoorW.PrintWords Go.Proofs.YtpcjbnaggeiaoaaDoorW.PrintLast Go.Proofs.YtpcjbnaggeiaoaaDoorW.PrintMore Go.Proofs.YtpcjbnaggeiaoaaDoor.MDate Go.Proofs.YtpcjbnaggeiaoaaDoor.MBits
set_option linter.unusedVariables false
set_option linter.unusedSimpArgs false
abbrev RN := S26
abbrev RC := S46
/-- An argument that is a node: its lists take no more than memory has. -/
inductive NodeOk : RN → Prop
  | mk (n : RN) (h1 : n.f1.length * 8 ≤ 140737488351232) (hw : ∀ x ∈ n.f1, (Lit.int .i64 x).wf = true) (h2 : n.f2.length * 72 ≤ 140737488351232) (h3 : ∀ c ∈ n.f2, NodeOk c) (h4 : n.f3.size ≤ 140737488351232) : NodeOk n
theorem rdR_at (l : List RN) (i : Nat) (h : i < l.length) : rd_T26 l (i : Int) = l[i] := by
  unfold rd_T26
  rw [Int.toNat_natCast, List.getD_eq_getElem?_getD, List.getElem?_eq_getElem h]
  rfl
theorem rdRC_at (l : List RC) (i : Nat) (h : i < l.length) : rd_T46 l (i : Int) = l[i] := by
  unfold rd_T46
  rw [Int.toNat_natCast, List.getD_eq_getElem?_getD, List.getElem?_eq_getElem h]
  rfl
/-- What a node is as the program has it. -/
inductive Is : RN → CN → Prop
  | mk (n : RN) (x : CN) (h0 : x.f0 = n.f0) (h1 : x.f1 = n.f1) (h2 : x.f2.length = n.f2.length) (h2' : ∀ (i : Nat) (h : i < n.f2.length) (h' : i < x.f2.length), Is n.f2[i] x.f2[i]) (h3 : x.f3 = n.f3) : Is n x
theorem given_l0 (n : RN) (hl : n.f2.length * 72 ≤ 140737488351232) (f0 : Int) (f1 : List Int) (f3 : ByteArray) (y0 : Int) (y1 : List Int) (y3 : ByteArray)
    (ih : ∀ c ∈ n.f2, ∃ x : CN, Ev (fun k => dayshiftlaw06_given.f k c.f0 c.f1 c.f2 c.f3) (x.f0, x.f1, x.f2, x.f3) ∧ Small x ∧ Is c x) :
    ∀ (d i : Nat) (acc : List CN), i + d = n.f2.length → acc.length = i → (∀ c ∈ acc, Small c) → (∀ (j : Nat) (h : j < n.f2.length) (h' : j < acc.length), Is n.f2[j] acc[j]) →
    ∃ ks : List CN, Ev (fun k => dayshiftlaw06_given.l0 k (i : Int) f0 f1 n.f2 f3 y0 y1 acc y3) (y0, y1, ks, y3) ∧ (∀ c ∈ ks, Small c) ∧ ks.length = n.f2.length ∧ ∀ (j : Nat) (h : j < n.f2.length) (h' : j < ks.length), Is n.f2[j] ks[j] := by
  intro d
  induction d with
  | zero =>
    intro i acc hi ha hs his
    exact ⟨acc, Ev.step (fun k => by rw [dayshiftlaw06_given.l0.eq_2, if_neg (by omega)]) (Ev.now _), hs, by omega, his⟩
  | succ d ihd =>
    intro i acc hi ha hs his
    have hlt : i < n.f2.length := by omega
    obtain ⟨⟨x0, x1, x2, x3⟩, hx, sx, ix⟩ := ih _ (List.getElem_mem hlt)
    obtain ⟨ks, h1, h2, h3, h4⟩ := ihd (i + 1) (acc ++ [⟨x0, x1, x2, x3⟩]) (by omega) (by simp [ha]) (fun c hc => by
      rcases List.mem_append.mp hc with hc | hc
      · exact hs c hc
      · rw [List.mem_singleton.mp hc]; exact sx) (fun j h h' => by
      by_cases e : j < acc.length
      · rw [List.getElem_append_left e]; exact his j h e
      · have : j = i := by simp at h'; omega
        subst this
        rw [List.getElem_append_right (by omega)]
        simpa [ha] using ix)
    refine ⟨ks, Ev.step (fun k => by rw [dayshiftlaw06_given.l0.eq_2, if_pos (by omega), if_pos (by omega), rdR_at n.f2 i hlt, wrap64_id (x := (i : Int) + 1) (by omega) (by omega)]) (Ev.bind hx ?_), h2, h3, h4⟩
    simp only [if_pos (show acc.length < 1954687338268 by omega)]
    rw [show ((i + 1 : Nat) : Int) = (i : Int) + 1 by omega] at h1
    exact h1
theorem wf_range {x : Int} (h : (Lit.int .i64 x).wf = true) : -9223372036854775808 ≤ x ∧ x ≤ 9223372036854775807 := wf64 h
theorem given_ev (n : RN) (h : NodeOk n) : ∃ x : CN, Ev (fun k => dayshiftlaw06_given.f k n.f0 n.f1 n.f2 n.f3) (x.f0, x.f1, x.f2, x.f3) ∧ Small x ∧ Is n x := by
  induction h with
  | mk n h1 hw h2 h3 h4 ih =>
    obtain ⟨ks, e1, e2, e3, e4⟩ := given_l0 n h2 n.f0 n.f1 n.f3 n.f0 ([] ++ n.f1) n.f3 ih n.f2.length 0 [] (by omega) rfl (fun c hc => by cases hc) (fun j h h' => by simp at h')
    refine ⟨⟨n.f0, n.f1, ks, n.f3⟩, Ev.step (fun k => by rw [dayshiftlaw06_given.f.eq_2, if_pos (by simp; omega)]) (by simpa using e1), ?_, ?_⟩
    · exact .mk _ (by dsimp only; omega) (by dsimp only; omega) (fun x hx => wf_range (hw x hx)) e2 h4
    · exact .mk _ _ rfl rfl e3 e4 rfl
theorem cals_l0 (l : List RC) (hl : l.length * 88 ≤ 140737488351232) (hc : ∀ c ∈ l, NodeOk c.f1) : ∀ (d i : Nat) (acc : List CC), i + d = l.length → acc.length = i → (∀ c ∈ acc, Small c.f1) → (∀ (j : Nat) (h : j < l.length) (h' : j < acc.length), acc[j].f0 = l[j].f0 ∧ Is l[j].f1 acc[j].f1) →
    ∃ lc : List CC, Ev (fun k => dayshiftlaw06_cals.l0 k l acc (i : Int)) lc ∧ (∀ c ∈ lc, Small c.f1) ∧ lc.length = l.length ∧ ∀ (j : Nat) (h : j < l.length) (h' : j < lc.length), lc[j].f0 = l[j].f0 ∧ Is l[j].f1 lc[j].f1 := by
  intro d
  induction d with
  | zero =>
    intro i acc hi ha hs his
    exact ⟨acc, Ev.step (fun k => by rw [dayshiftlaw06_cals.l0.eq_2, if_neg (by omega)]) (Ev.now _), hs, by omega, his⟩
  | succ d ihd =>
    intro i acc hi ha hs his
    have hlt : i < l.length := by omega
    obtain ⟨⟨x0, x1, x2, x3⟩, hx, sx, ix⟩ := given_ev _ (hc _ (List.getElem_mem hlt))
    obtain ⟨ks, h1, h2, h3, h4⟩ := ihd (i + 1) (acc ++ [⟨l[i].f0, ⟨x0, x1, x2, x3⟩⟩]) (by omega) (by simp [ha]) (fun c hc => by
      rcases List.mem_append.mp hc with hc | hc
      · exact hs c hc
      · rw [List.mem_singleton.mp hc]; exact sx) (fun j h h' => by
      by_cases e : j < acc.length
      · rw [List.getElem_append_left e]; exact his j h e
      · have : j = i := by simp at h'; omega
        subst this
        rw [List.getElem_append_right (by omega)]
        simpa [ha] using ix)
    refine ⟨ks, Ev.step (fun k => by rw [dayshiftlaw06_cals.l0.eq_2, if_pos (by omega), if_pos (by omega), rdRC_at l i hlt, wrap64_id (x := (i : Int) + 1) (by omega) (by omega)]) (Ev.bind hx ?_), h2, h3, h4⟩
    simp only [if_pos (show acc.length < 1599289640401 by omega)]
    rw [show ((i + 1 : Nat) : Int) = (i : Int) + 1 by omega] at h1
    exact h1
theorem cals_ev (l : List RC) (hl : l.length * 88 ≤ 140737488351232) (hc : ∀ c ∈ l, NodeOk c.f1) : ∃ lc : List CC, Ev (fun k => dayshiftlaw06_cals.f k l) lc ∧ (∀ c ∈ lc, Small c.f1) ∧ lc.length = l.length ∧ ∀ (j : Nat) (h : j < l.length) (h' : j < lc.length), lc[j].f0 = l[j].f0 ∧ Is l[j].f1 lc[j].f1 := by
  unfold dayshiftlaw06_cals.f
  obtain ⟨lc, h⟩ := cals_l0 l hl hc l.length 0 [] (by omega) rfl (fun c hc => by cases hc) (fun j h h' => by simp at h')
  exact ⟨lc, h⟩
end Go.Proofs.YtpcjbnaggeiaoaaDoor.QCalMoved
