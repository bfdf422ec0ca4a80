/- This text holds, for Go functions of the given program, Lean functions with the same answers, and proofs that the machine's calls come to these answers; each theorem names its own conditions. It was laid by a program of this session. -/
import Derived.Test.YtpcjbnaggeiaoaaDoorPCalMovedx0
import Derived.Test.YtpcjbnaggeiaoaaDoorPCalMovedx1
import Derived.Test.YtpcjbnaggeiaoaaDoorPCalMovedx3
import Derived.Test.YtpcjbnaggeiaoaaDoorPCalMovedx4
import Derived.Test.YtpcjbnaggeiaoaaDoorPCalMovedx5
import Derived.Test.YtpcjbnaggeiaoaaDoorPCalMovedx6
import Derived.Test.YtpcjbnaggeiaoaaDoorPCalMovedx7
namespace Go.Proofs.YtpcjbnaggeiaoaaDoor.PCalMoved
open Go.RowKit Go.Proofs.YtpcjbnaggeiaoaaDoorW.PrintWords Go.Proofs.YtpcjbnaggeiaoaaDoorW.PrintLast Go.Proofs.YtpcjbnaggeiaoaaDoorW.PrintMore
attribute [local go_sem] max2_int min2_int max_two min_two max_three min_three max_four min_four   -- for this text's walks alone
set_option linter.unusedVariables false
set_option linter.unusedSimpArgs false

/-! ### cal_book_month: function 25 -/
mutual
def month.f : Nat → List S48 → S31 → Int → Int → Option Int
  | 0, _, _, _, _ => none
  | k + 1, l, n, f, g =>
    if n.f0 = 1 then (if 0 < n.f1.length then (date_Weekday.f f).bind fun d => mask_Week.f k ((rd n.f1 0) % 256) d.1 g else none) else
    if n.f0 = 2 then month.l1 k n.f1 0 f g 0 else
    if n.f0 = 3 then mask_Days.f k n.f1 g else
    if n.f0 = 4 then (if 1 < n.f1.length then (date_Date.f k f).bind fun d => (week_Nth.f k d.1 d.2.1 (rd n.f1 0) (rd n.f1 1)).bind fun q => if q.2 = 0 then cal_span_bit.f f g q.1 else some 0 else none) else
    if n.f0 = 5 then (if 0 < n.f1.length then (named.f k l n.f3 f g).bind fun m => (mask_Month_Nth.f k m (rd n.f1 0)).bind fun d => if d > 0 then cal_span_bit.f f g (wrap64 (wrap64 (f + d) - 1)) else some 0 else none) else
    if n.f0 = 6 then (if 1 < n.f1.length then cal_fiscal.f k (rd n.f1 0) (rd n.f1 1) f g else none) else
    if n.f0 = 7 then (mask_All.f g).bind fun m => month.l2 k l n.f2 0 f g m else
    if n.f0 = 8 then month.l3 k l n.f2 0 f g 0 else
    if n.f0 = 9 then (if 0 < n.f2.length then (month.f k l (rd_T31 n.f2 0) f g).bind fun m => mask_Month_Not.f m g else none) else
    if n.f0 = 10 then named.f k l n.f3 f g else some 0
def named.f : Nat → List S48 → ByteArray → Int → Int → Option Int
  | 0, _, _, _, _ => none
  | k + 1, l, name, f, g =>
    if name.size ≤ maxLen then (if (Lit.int .i64 f).wf = true then (cal_Find.f l name).bind fun i => if 0 ≤ i then (if i < (l.length : Int) then (month.f k l (rd_T48 l i).f1 f g).bind fun m => if (Lit.int .u32 m).wf = true then some m else none else none) else none else none) else none
def month.l1 : Nat → List Int → Int → Int → Int → Int → Option Int
  | 0, _, _, _, _, _ => none
  | k + 1, xs, i, f, g, m => if i < (xs.length : Int) then (if 0 ≤ i then (cal_span_bit.f f g (rd xs i)).bind fun b => month.l1 k xs (wrap64 (i + 1)) f g (Go.bits .or .u32 m b) else none) else some m
def month.l2 : Nat → List S48 → List S31 → Int → Int → Int → Int → Option Int
  | 0, _, _, _, _, _, _ => none
  | k + 1, l, xs, i, f, g, m => if i < (xs.length : Int) then (if 0 ≤ i then (month.f k l (rd_T31 xs i) f g).bind fun b => month.l2 k l xs (wrap64 (i + 1)) f g (Go.bits .and .u32 m b) else none) else some m
def month.l3 : Nat → List S48 → List S31 → Int → Int → Int → Int → Option Int
  | 0, _, _, _, _, _, _ => none
  | k + 1, l, xs, i, f, g, m => if i < (xs.length : Int) then (if 0 ≤ i then (month.f k l (rd_T31 xs i) f g).bind fun b => month.l3 k l xs (wrap64 (i + 1)) f g (Go.bits .or .u32 m b) else none) else some m
end
theorem month.mono_l : ∀ k, (∀ l n f g, LeO (month.f k l n f g) (month.f (k + 1) l n f g)) ∧ (∀ l n f g, LeO (named.f k l n f g) (named.f (k + 1) l n f g)) ∧ (∀ xs i f g m, LeO (month.l1 k xs i f g m) (month.l1 (k + 1) xs i f g m)) ∧ (∀ l xs i f g m, LeO (month.l2 k l xs i f g m) (month.l2 (k + 1) l xs i f g m)) ∧ (∀ l xs i f g m, LeO (month.l3 k l xs i f g m) (month.l3 (k + 1) l xs i f g m))
  | 0 => ⟨fun _ _ _ _ r h => by simp [month.f] at h, fun _ _ _ _ r h => by simp [named.f] at h, fun _ _ _ _ _ r h => by simp [month.l1] at h, fun _ _ _ _ _ _ r h => by simp [month.l2] at h, fun _ _ _ _ _ _ r h => by simp [month.l3] at h⟩
  | k + 1 => by
    obtain ⟨ih0, ih1, ih2, ih3, ih4⟩ := month.mono_l k
    refine ⟨?_, ?_, ?_, ?_, ?_⟩
    · intro l n f g
      rw [month.f.eq_2, month.f.eq_2]
      repeat' first
      | (with_reducible exact ih0 _ _ _ _)
      | (with_reducible exact ih1 _ _ _ _)
      | (with_reducible exact ih2 _ _ _ _ _)
      | (with_reducible exact ih3 _ _ _ _ _ _)
      | (with_reducible exact ih4 _ _ _ _ _ _)
      | (with_reducible exact mask_Week.mono _ _ _ _)
      | (with_reducible exact mask_Days.mono _ _ _)
      | (with_reducible exact date_Date.mono _ _)
      | (with_reducible exact week_Nth.mono _ _ _ _ _)
      | (with_reducible exact mask_Month_Nth.mono _ _ _)
      | (with_reducible exact cal_fiscal.mono _ _ _ _ _)
      | (with_reducible exact LeO.refl _)
      | (with_reducible exact LeO.none _)
      | (with_reducible refine LeO.ite ?_ ?_)
      | (with_reducible refine LeO.bind ?_ (fun _ => ?_))
    · intro l n f g
      rw [named.f.eq_2, named.f.eq_2]
      repeat' first
      | (with_reducible exact ih0 _ _ _ _)
      | (with_reducible exact LeO.refl _)
      | (with_reducible exact LeO.none _)
      | (with_reducible refine LeO.ite ?_ ?_)
      | (with_reducible refine LeO.bind ?_ (fun _ => ?_))
    · intro xs i f g m
      rw [month.l1.eq_2, month.l1.eq_2]
      repeat' first
      | (with_reducible exact ih2 _ _ _ _ _)
      | (with_reducible exact LeO.refl _)
      | (with_reducible exact LeO.none _)
      | (with_reducible refine LeO.ite ?_ ?_)
      | (with_reducible refine LeO.bind ?_ (fun _ => ?_))
    · intro l xs i f g m
      rw [month.l2.eq_2, month.l2.eq_2]
      repeat' first
      | (with_reducible exact ih0 _ _ _ _)
      | (with_reducible exact ih3 _ _ _ _ _ _)
      | (with_reducible exact LeO.refl _)
      | (with_reducible exact LeO.none _)
      | (with_reducible refine LeO.ite ?_ ?_)
      | (with_reducible refine LeO.bind ?_ (fun _ => ?_))
    · intro l xs i f g m
      rw [month.l3.eq_2, month.l3.eq_2]
      repeat' first
      | (with_reducible exact ih0 _ _ _ _)
      | (with_reducible exact ih4 _ _ _ _ _ _)
      | (with_reducible exact LeO.refl _)
      | (with_reducible exact LeO.none _)
      | (with_reducible refine LeO.ite ?_ ?_)
      | (with_reducible refine LeO.bind ?_ (fun _ => ?_))
theorem asked.law : Go.Maps.Keyed Tryd.prog 90 := Go.Maps.Keyed.of_law (deep_law_laid (by kernel_rfl) (m := 4) (by decide) (of_decide_eq_true (by kernel_rfl)) (by kernel_rfl) (by kernel_rfl))
theorem asked.key (s : ByteArray) (f : Int) (hs : s.size ≤ maxLen) (hf : (Lit.int .i64 f).wf = true) : ∃ kl, keyOf Tryd.prog 90 (.agg #[.string s, .int .i64 f]) = some kl := by
  have hu := Tryd.underlying90
  have h9 := Tryd.underlying9
  have h2 := Tryd.underlying2
  have hc : Tryd.prog.cellsOf 90 = 2 := by kernel_rfl
  have hc9 : Tryd.prog.cellsOf 9 = 1 := by kernel_rfl
  have hc2 : Tryd.prog.cellsOf 2 = 1 := by kernel_rfl
  obtain ⟨d, hd⟩ : ∃ d, Tryd.prog.types.size = d + 1 := ⟨Tryd.prog.types.size - 1, by have : 0 < Tryd.prog.types.size := of_decide_eq_true (by kernel_rfl); omega⟩
  unfold keyOf
  rw [hu]
  simp only [hd]
  have hk : Tryd.prog.keyType 90 = true := by kernel_rfl
  have hf1 : Value.formed Tryd.prog 90 (Value.agg #[Value.string s, Value.int IntKind.i64 f]) = true := by
    unfold Value.formed
    simp [hu, hc]
  rw [hk, hf1]
  simp only [Bool.and_self, if_true]
  unfold Program.keyLits
  simp only [hu, Value.cells, hc]
  unfold Program.keyLits
  simp [h9, h2, hs, hf, hc9, hc2]
theorem named.mono : ∀ l name f g k, LeO (named.f k l name f g) (named.f (k + 1) l name f g) := fun l name f g k => (month.mono_l k).2.1 l name f g
/-- Two runs, of whatever rounds, tell the same. -/
theorem named.one {l : List S48} {name : ByteArray} {f g : Int} {k1 k2 : Nat} {a b : Int} (h1 : named.f k1 l name f g = some a) (h2 : named.f k2 l name f g = some b) : a = b := by
  have u1 := at_rounds (g := fun k => named.f k l name f g) (fun k => named.mono l name f g k) (Nat.le_max_left k1 k2) h1
  have u2 := at_rounds (g := fun k => named.f k l name f g) (fun k => named.mono l name f g k) (Nat.le_max_right k1 k2) h2
  exact Option.some.inj (u1.symm.trans u2)
def names (l : List S48) : List ByteArray := l.map (·.f0)
/-- What was asked already stands in the map, and is right. -/
def Memo (l : List S48) (L : Int → Int) (F : List Int) (mb : Nat) (w : World) : Prop :=
  ∃ (D : DataW Unit) (K : List (ByteArray × Int)), w.ownsMap Tryd.prog 90 (plainElem Tryd.prog 67) mb K.length D ∧ K.Nodup ∧ (∀ q ∈ K, q.1 ∈ names l ∧ q.2 ∈ F ∧ ∃ kl, keyOf Tryd.prog 90 (.agg #[.string q.1, .int .i64 q.2]) = some kl ∧ Go.Maps.has D kl = true) ∧
    (∀ name f kl, keyOf Tryd.prog 90 (.agg #[.string name, .int .i64 f]) = some kl → Go.Maps.has D kl = true → ∃ m k, D.atKey kl (.lit (.int .u32 0)) = .lit (.int .u32 m) ∧ named.f k l name f (L f) = some m)
theorem Memo.new (l : List S48) (L : Int → Int) (F : List Int) (w : World) : Memo l L F w.heap.size (w.alloc (.map #[] 0)) :=
  ⟨.map [], [], World.ownsMap_made _ _ _ _, List.nodup_nil, fun q hq => by simp at hq, fun name f kl _ h => by simp [Go.Maps.has] at h⟩
theorem Memo.of_block {l : List S48} {L : Int → Int} {F : List Int} {mb : Nat} {w w' : World} (h : Memo l L F mb w) (hb : w'.heap[mb]? = w.heap[mb]?) : Memo l L F mb w' := by
  obtain ⟨D, K, ⟨es, clock, hm, r⟩, h2⟩ := h
  exact ⟨D, K, ⟨es, clock, hb.trans hm, r⟩, h2⟩
theorem nodup_len {α : Type} [DecidableEq α] : ∀ (K B : List α), K.Nodup → (∀ x ∈ K, x ∈ B) → K.length ≤ B.length
  | [], _, _, _ => Nat.zero_le _
  | a :: K, B, hn, hs => by
    rw [List.nodup_cons] at hn
    have h1 : a ∈ B := hs a (by simp)
    have h2 := nodup_len K (B.erase a) hn.2 (fun x hx => by rw [List.mem_erase_of_ne (by rintro rfl; exact hn.1 hx)]; exact hs x (by simp [hx]))
    rw [List.length_erase_of_mem h1] at h2
    have := List.length_pos_of_mem h1
    simp only [List.length_cons]
    omega
theorem keys_len (K : List (ByteArray × Int)) (A : List ByteArray) (F : List Int) (hn : K.Nodup) (h : ∀ q ∈ K, q.1 ∈ A ∧ q.2 ∈ F) : K.length ≤ A.length * F.length := by
  have h2 := nodup_len K (A.flatMap fun a => F.map fun f => (a, f)) hn (fun q hq => by
    obtain ⟨h1, h2⟩ := h q hq
    rw [List.mem_flatMap]
    exact ⟨q.1, h1, List.mem_map.mpr ⟨q.2, h2, rfl⟩⟩)
  have h3 : ∀ A : List ByteArray, (A.flatMap fun a => F.map fun f => (a, f)).length = A.length * F.length := by
    intro A
    induction A with
    | nil => simp
    | cons a A ih => rw [List.flatMap_cons, List.length_append, ih, List.length_map, List.length_cons, Nat.succ_mul, Nat.add_comm]
  rw [h3] at h2
  exact h2
/-- The key that a name and a day read as tells both. -/
theorem asked.inj {s s' : ByteArray} {f f' : Int} {kl : Lit} (h : keyOf Tryd.prog 90 (.agg #[.string s, .int .i64 f]) = some kl) (h' : keyOf Tryd.prog 90 (.agg #[.string s', .int .i64 f']) = some kl) : s = s' ∧ f = f' := by
  have := asked.law.inj h h'
  simpa using this
/-- One more that is right. -/
theorem Memo.put {l : List S48} {L : Int → Int} {F : List Int} {mb : Nat} {w w' : World} {D : DataW Unit} {K : List (ByteArray × Int)} (hown : w.ownsMap Tryd.prog 90 (plainElem Tryd.prog 67) mb K.length D) (hn : K.Nodup)
    (hk : ∀ q ∈ K, q.1 ∈ names l ∧ q.2 ∈ F ∧ ∃ kl, keyOf Tryd.prog 90 (.agg #[.string q.1, .int .i64 q.2]) = some kl ∧ Go.Maps.has D kl = true)
    (hr : ∀ name f kl, keyOf Tryd.prog 90 (.agg #[.string name, .int .i64 f]) = some kl → Go.Maps.has D kl = true → ∃ m k, D.atKey kl (.lit (.int .u32 0)) = .lit (.int .u32 m) ∧ named.f k l name f (L f) = some m)
    {name : ByteArray} {f m : Int} {k : Nat} {kl : Lit} (hkl : keyOf Tryd.prog 90 (.agg #[.string name, .int .i64 f]) = some kl) (hno : Go.Maps.has D kl = false) (hname : name ∈ names l) (hf : f ∈ F) (hm : named.f k l name f (L f) = some m)
    (hown' : w'.ownsMap Tryd.prog 90 (plainElem Tryd.prog 67) mb (K.length + 1) (D.put kl (.lit (.int .u32 m)))) : Memo l L F mb w' := by
  have hD : Go.Maps.IsMap D := hown.isMap
  have hK := asked.law.key hkl
  refine ⟨_, (name, f) :: K, hown', ?_, ?_, ?_⟩
  · rw [List.nodup_cons]
    refine ⟨fun hin => ?_, hn⟩
    obtain ⟨_, _, kl', h1, h2⟩ := hk _ hin
    have : kl' = kl := Option.some.inj (h1.symm.trans hkl)
    rw [this, hno] at h2
    cases h2
  · intro q hq
    rcases List.mem_cons.mp hq with rfl | hq
    · exact ⟨hname, hf, kl, hkl, Go.Maps.has_put_same hD hK _⟩
    · obtain ⟨h1, h2, kl', h3, h4⟩ := hk q hq
      refine ⟨h1, h2, kl', h3, ?_⟩
      by_cases e : kl' = kl
      · rw [e]; exact Go.Maps.has_put_same hD hK _
      · rw [Go.Maps.has_put_other e]; exact h4
  · intro name' f' kl' h1 h2
    by_cases e : kl' = kl
    · subst e
      obtain ⟨rfl, rfl⟩ := asked.inj h1 hkl
      exact ⟨m, k, Go.Maps.atKey_put_same hD hK _ _, hm⟩
    · rw [Go.Maps.has_put_other e] at h2
      obtain ⟨m', k', h3, h4⟩ := hr name' f' kl' h1 h2
      exact ⟨m', k', (Go.Maps.atKey_put_other e _ _).trans h3, h4⟩
/-- A book in memory: what does not change while it is asked. -/
structure Env (l : List S48) (A0 : Option Addr) (c0 : Nat) (L : Int → Int) (F : List Int) (bb mb : Nat) (met : Int) (w0 w : World) : Prop where
  below : Below w0.heap.size w0 w
  hbb : w0.heap.size ≤ bb
  hmb : w0.heap.size ≤ mb
  ne : bb ≠ mb
  blk : w.heap[bb]? = some (.cells #[.slice A0 l.length c0, .map (some mb), .int .i64 met] 58 (0, 0))
  memo : Memo l L F mb w
  hl : Kd.C k48 w0 A0 l.length l
  hlc : l.length ≤ c0
  len : l.length ≤ 24
  lenF : F.length ≤ 10000000
  gok : GOK w0
theorem Env.below_ {l A0 c0 L F bb mb met w0 w w'} (h : Env l A0 c0 L F bb mb met w0 w) (hb : Below w.heap.size w w') : Env l A0 c0 L F bb mb met w0 w' :=
  ⟨h.below.trans (hb.mono h.below.size), h.hbb, h.hmb, h.ne, (hb.block _ (blk_lt h.blk)).trans h.blk, by
    obtain ⟨D, K, ⟨es, clock, hm, r⟩, h2⟩ := h.memo
    exact ⟨D, K, ⟨es, clock, (hb.block _ (blk_lt hm)).trans hm, r⟩, h2⟩, h.hl, h.hlc, h.len, h.lenF, h.gok⟩
theorem Env.turn {l A0 c0 L F bb mb met w0 w w'} (h : Env l A0 c0 L F bb mb met w0 w) (hk : KB (fun j => j = mb) w w') (hm : Memo l L F mb w') : Env l A0 c0 L F bb mb met w0 w' :=
  ⟨hk.below h.below (fun j e => e ▸ h.hmb), h.hbb, h.hmb, h.ne, hk.blk h.blk h.ne, hm, h.hl, h.hlc, h.len, h.lenF, h.gok⟩
set_option maxHeartbeats 8000000 in
set_option maxRecDepth 100000 in
theorem named.hit (l : List S48) (A0 : Option Addr) (c0 : Nat) (L : Int → Int) (F : List Int) (bb mb : Nat) (met : Int) (w0 w : World) (name : ByteArray) (f g c : Int)
    (he : Env l A0 c0 L F bb mb met w0 w)
    (hlook : ∀ W : World, W.heap[mb]? = w.heap[mb]? → (Instr.lookup 56 (.map (some mb)) (.agg #[.string name, .int .i64 f]) true).run Tryd.prog W = .ok (.tuple #[.int .u32 c, .bool true]) W) :
    Calls Tryd.prog 39 #[.pointer (some ⟨bb, 0, none⟩), .string name, .agg #[.int .i64 f, .int .i64 g]] w fun e w' => e = .returned (.int .u32 c) ∧ Below w.heap.size w w' := by
  have b1 := blk_cell he.blk 1
  simp only [List.getElem?_toArray, List.getElem?_cons_zero, List.getElem?_cons_succ] at b1
  have hlt := blk_lt he.blk
  have hmlt : mb < w.heap.size := by obtain ⟨D, K, ⟨es, clock, hm, r⟩, h2⟩ := he.memo; exact blk_lt hm
  go_enter Tryd.func39, Tryd.ntmps39
  go_wp2
  obtain ⟨W, hW⟩ : ∃ W, W = (w.alloc (.cells #[.int .i64 f, .int .i64 g] 64 (0, 0))).alloc (.cells #[.string name, .int .i64 f] 90 (0, 0)) := ⟨_, rfl⟩
  rw [← hW]
  have hbW : Below w.heap.size w W := by rw [hW]; exact below_alloc (below_alloc (Below.refl _ _) _) _
  have k1 : W.cell? ⟨bb, 1, none⟩ = some (.map (some mb)) := (hbW.cell (p := ⟨bb, 1, none⟩) hlt).trans b1
  have kb := blk_new (w.alloc (.cells #[.int .i64 f, .int .i64 g] 64 (0, 0))) (.cells #[.string name, .int .i64 f] 90 (0, 0))
  rw [← hW, show (w.alloc (.cells #[.int .i64 f, .int .i64 g] 64 (0, 0))).heap.size = w.heap.size + 1 from by simp] at kb
  have k2 : W.cell? ⟨w.heap.size + 1, 0, none⟩ = _ := blk_cell kb 0
  have k3 : W.cell? ⟨w.heap.size + 1, 1, none⟩ = _ := blk_cell kb 1
  simp only [List.getElem?_toArray, List.getElem?_cons_zero, List.getElem?_cons_succ] at k2 k3
  have hl0 := fun n => hlook (W.drewN n) (hbW.block mb hmlt)
  clear hlook hW b1 kb
  go_quiet (fail)
  go_wp2
  go_ret
  exact ⟨rfl, pw_below_drewN hbW _⟩
/-- Fewer entries: a map that reads so has just so many. -/
theorem ownsMap_size {P : Program} {k : TypeId} {R : Value → Option (DataW Unit × List MemPlace)} {w : World} {b n m : Nat} {D : DataW Unit} (h : w.ownsMap P k R b n D) (hm : Go.Maps.size D ≤ m) : w.ownsMap P k R b m D := by
  obtain ⟨es, clock, hb, F, hs, rfl⟩ := h
  refine ⟨es, clock, hb, F, ?_, rfl⟩
  simpa [Go.Maps.size, length_sorted] using hm
theorem Memo.put2 {l : List S48} {L : Int → Int} {F : List Int} {mb : Nat} {w w' : World} {D : DataW Unit} {K : List (ByteArray × Int)} (hown : w.ownsMap Tryd.prog 90 (plainElem Tryd.prog 67) mb K.length D) (hn : K.Nodup)
    (hk : ∀ q ∈ K, q.1 ∈ names l ∧ q.2 ∈ F ∧ ∃ kl, keyOf Tryd.prog 90 (.agg #[.string q.1, .int .i64 q.2]) = some kl ∧ Go.Maps.has D kl = true)
    (hr : ∀ name f kl, keyOf Tryd.prog 90 (.agg #[.string name, .int .i64 f]) = some kl → Go.Maps.has D kl = true → ∃ m k, D.atKey kl (.lit (.int .u32 0)) = .lit (.int .u32 m) ∧ named.f k l name f (L f) = some m)
    {name : ByteArray} {f m : Int} {k : Nat} {kl : Lit} (hkl : keyOf Tryd.prog 90 (.agg #[.string name, .int .i64 f]) = some kl) (hname : name ∈ names l) (hf : f ∈ F) (hm : named.f k l name f (L f) = some m)
    (hown' : w'.ownsMap Tryd.prog 90 (plainElem Tryd.prog 67) mb (K.length + 1) (D.put kl (.lit (.int .u32 m)))) : Memo l L F mb w' := by
  by_cases hno : Go.Maps.has D kl = false
  · exact Memo.put hown hn hk hr hkl hno hname hf hm hown'
  have hyes : Go.Maps.has D kl = true := by simpa using hno
  have hD : Go.Maps.IsMap D := hown.isMap
  have hK := asked.law.key hkl
  refine ⟨_, K, ownsMap_size hown' ?_, hn, ?_, ?_⟩
  · rw [Go.Maps.size_put (hown.tidy asked.law)]
    rw [if_pos hyes]
    exact hown.size_le
  · intro q hq
    obtain ⟨h1, h2, kl', h3, h4⟩ := hk q hq
    refine ⟨h1, h2, kl', h3, ?_⟩
    by_cases e : kl' = kl
    · rw [e]; exact Go.Maps.has_put_same hD hK _
    · rw [Go.Maps.has_put_other e]; exact h4
  · intro name' f' kl' h1 h2
    by_cases e : kl' = kl
    · subst e
      obtain ⟨rfl, rfl⟩ := asked.inj h1 hkl
      exact ⟨m, k, Go.Maps.atKey_put_same hD hK _ _, hm⟩
    · rw [Go.Maps.has_put_other e] at h2
      obtain ⟨m', k', h3, h4⟩ := hr name' f' kl' h1 h2
      exact ⟨m', k', (Go.Maps.atKey_put_other e _ _).trans h3, h4⟩
def MonthOK (l : List S48) (A0 : Option Addr) (c0 : Nat) (L : Int → Int) (F : List Int) (bb mb : Nat) (met : Int) (w0 : World) (k : Nat) : Prop :=
  ∀ (n : S31) (A1 : Option Addr) (c1 : Nat) (A2 : Option Addr) (c2 : Nat) (f g r : Int) (w : World), Env l A0 c0 L F bb mb met w0 w → (Kd.int .i64).C w0 A1 n.f1.length n.f1 → n.f1.length ≤ c1 → k31.C w0 A2 n.f2.length n.f2 → n.f2.length ≤ c2 →
    f ∈ F → L f = g → month.f k l n f g = some r →
    Calls Tryd.prog 25 #[.pointer (some ⟨bb, 0, none⟩), .agg #[.int .i64 n.f0, .slice A1 n.f1.length c1, .slice A2 n.f2.length c2, .string n.f3], .agg #[.int .i64 f, .int .i64 g]] w fun e w' => e = .returned (.int .u32 r) ∧ KB (fun j => j = mb) w w' ∧ Memo l L F mb w'
set_option maxHeartbeats 8000000 in
set_option maxRecDepth 100000 in
theorem named.miss (l : List S48) (A0 : Option Addr) (c0 : Nat) (L : Int → Int) (F : List Int) (bb mb : Nat) (met : Int) (w0 w : World) (name : ByteArray) (f g c : Int) (k : Nat) (i m : Int)
    (he : Env l A0 c0 L F bb mb met w0 w) (hf : f ∈ F) (hL : L f = g) (hs : name.size ≤ maxLen) (hff : (Lit.int .i64 f).wf = true)
    (hi : cal_Find.f l name = some i) (d4 : 0 ≤ i) (d3 : i < (l.length : Int)) (hname : name ∈ names l) (hm : month.f k l (rd_T48 l i).f1 f g = some m) (hwf : (Lit.int .u32 m).wf = true) (hnk : named.f (k + 1) l name f (L f) = some m)
    (ih : MonthOK l A0 c0 L F bb mb met w0 k)
    (hlook : ∀ W : World, W.heap[mb]? = w.heap[mb]? → (Instr.lookup 56 (.map (some mb)) (.agg #[.string name, .int .i64 f]) true).run Tryd.prog W = .ok (.tuple #[.int .u32 c, .bool false]) W) :
    Calls Tryd.prog 39 #[.pointer (some ⟨bb, 0, none⟩), .string name, .agg #[.int .i64 f, .int .i64 g]] w fun e w' => e = .returned (.int .u32 m) ∧ KB (fun j => j = mb) w w' ∧ Memo l L F mb w' := by
  have b1 := blk_cell he.blk 1
  simp only [List.getElem?_toArray, List.getElem?_cons_zero, List.getElem?_cons_succ] at b1
  have hlt := blk_lt he.blk
  have hmlt : mb < w.heap.size := by obtain ⟨D, K, ⟨es, clock, hm, r⟩, h2⟩ := he.memo; exact blk_lt hm
  obtain ⟨ad, A3, c3', A4, c4', e, x0, y0, y1, y2, y3, l3, g3, l4, g4⟩ := at_T48 he.hl i d4 d3
  cases e
  go_enter Tryd.func39, Tryd.ntmps39
  go_wp2
  obtain ⟨W, hW⟩ : ∃ W, W = (w.alloc (.cells #[.int .i64 f, .int .i64 g] 64 (0, 0))).alloc (.cells #[.string name, .int .i64 f] 90 (0, 0)) := ⟨_, rfl⟩
  rw [← hW]
  have hbW : Below w.heap.size w W := by rw [hW]; exact below_alloc (below_alloc (Below.refl _ _) _) _
  have k1 : W.cell? ⟨bb, 1, none⟩ = some (.map (some mb)) := (hbW.cell (p := ⟨bb, 1, none⟩) hlt).trans b1
  have kb := blk_new (w.alloc (.cells #[.int .i64 f, .int .i64 g] 64 (0, 0))) (.cells #[.string name, .int .i64 f] 90 (0, 0))
  rw [← hW, show (w.alloc (.cells #[.int .i64 f, .int .i64 g] 64 (0, 0))).heap.size = w.heap.size + 1 from by simp] at kb
  have kc : W.heap[w.heap.size]? = some (.cells #[.int .i64 f, .int .i64 g] 64 (0, 0)) := by rw [hW]; exact blk_alloc (blk_new w _) _
  have k2 : W.cell? ⟨w.heap.size + 1, 0, none⟩ = _ := blk_cell kb 0
  have k3 : W.cell? ⟨w.heap.size + 1, 1, none⟩ = _ := blk_cell kb 1
  simp only [List.getElem?_toArray, List.getElem?_cons_zero, List.getElem?_cons_succ] at k2 k3
  have hl0 := fun n => hlook (W.drewN n) (hbW.block mb hmlt)
  have HKB := Aside0.mk kb
  have HKC := Aside0.mk kc
  clear hlook hW b1 kb kc
  go_quiet (fail)
  go_wp2
  have hbV := pw_below_drewN hbW nq
  obtain ⟨V, hV⟩ : ∃ V, V = W.drewN nq := ⟨_, rfl⟩
  rw [← hV]
  rw [← hV] at hbV
  have v0 : V.cell? ⟨bb, 0, none⟩ = some (.slice (some ad) l.length c0) := (hbV.cell (p := ⟨bb, 0, none⟩) hlt).trans (blk_cell he.blk 0)
  have v1 : V.cell? ⟨bb, 1, none⟩ = some (.map (some mb)) := (hbV.cell (p := ⟨bb, 1, none⟩) hlt).trans (blk_cell he.blk 1)
  have hsb : V.heap[w.heap.size]? = some (.cells #[.int .i64 f, .int .i64 g] 64 (0, 0)) := by rw [hV]; exact HKC.out
  have hkb : V.heap[w.heap.size + 1]? = some (.cells #[.string name, .int .i64 f] 90 (0, 0)) := by rw [hV]; exact HKB.out
  have HV := Aside0.mk hbV
  have HSB := Aside0.mk hsb
  have HKB2 := Aside0.mk hkb
  have s0 : V.cell? ⟨w.heap.size, 0, none⟩ = _ := blk_cell hsb 0
  have s1 : V.cell? ⟨w.heap.size, 1, none⟩ = _ := blk_cell hsb 1
  simp only [List.getElem?_toArray, List.getElem?_cons_zero, List.getElem?_cons_succ] at s0 s1
  have hVe : Env l (some ad) c0 L F bb mb met w0 V := he.below_ hbV
  have hblk := World.block_lt_of_cell? w0 _ x0
  have hblkV : (ad.add (i.toNat * 5)).block < V.heap.size := Nat.lt_of_lt_of_le hblk hVe.below.size
  have z0 : V.cell? ⟨(ad.add (i.toNat * 5)).block, (ad.add (i.toNat * 5)).off + 1, none⟩ = _ := (hVe.below.cell (p := ⟨(ad.add (i.toNat * 5)).block, (ad.add (i.toNat * 5)).off + 1, none⟩) hblk).trans y0
  have z1 : V.cell? ⟨(ad.add (i.toNat * 5)).block, (ad.add (i.toNat * 5)).off + 2, none⟩ = _ := (hVe.below.cell (p := ⟨(ad.add (i.toNat * 5)).block, (ad.add (i.toNat * 5)).off + 2, none⟩) hblk).trans y1
  have z2 : V.cell? ⟨(ad.add (i.toNat * 5)).block, (ad.add (i.toNat * 5)).off + 3, none⟩ = _ := (hVe.below.cell (p := ⟨(ad.add (i.toNat * 5)).block, (ad.add (i.toNat * 5)).off + 3, none⟩) hblk).trans y2
  have z3 : V.cell? ⟨(ad.add (i.toNat * 5)).block, (ad.add (i.toNat * 5)).off + 4, none⟩ = _ := (hVe.below.cell (p := ⟨(ad.add (i.toNat * 5)).block, (ad.add (i.toNat * 5)).off + 4, none⟩) hblk).trans y3
  have HE := Aside0.mk he
  have HVE := Aside0.mk hVe
  have HIH := Aside0.mk ih
  have hfind := fun (W' : World) (hW' : Below V.heap.size V W') => cal_Find.calls (some ad) c0 l name i W' (Kd.C_below he.hl (hVe.below.trans (hW'.mono hVe.below.size))) he.hlc hi
  have hmon := fun (W' : World) (hW' : Below V.heap.size V W') => ih (rd_T48 l i).f1 A3 c3' A4 c4' f g m W' (hVe.below_ hW') g3 l3 g4 l4 hf hL hm
  have d3b : decide (i < (l.length : Int)) = true := decide_eq_true d3
  have d4b : decide (0 ≤ i) = true := decide_eq_true d4
  have HS : Aside0 (∀ W' : World, KB (fun j => j = mb) V W' → W'.cell? ⟨bb, 0, none⟩ = some (.slice (some ad) l.length c0) ∧ W'.cell? ⟨w.heap.size, 0, none⟩ = some (.int .i64 f) ∧ W'.cell? ⟨w.heap.size, 1, none⟩ = some (.int .i64 g) ∧
      W'.cell? ⟨(ad.add (i.toNat * 5)).block, (ad.add (i.toNat * 5)).off + 1, none⟩ = some (.int .i64 (rd_T48 l i).f1.f0) ∧ W'.cell? ⟨(ad.add (i.toNat * 5)).block, (ad.add (i.toNat * 5)).off + 2, none⟩ = some (.slice A3 (rd_T48 l i).f1.f1.length c3') ∧
      W'.cell? ⟨(ad.add (i.toNat * 5)).block, (ad.add (i.toNat * 5)).off + 3, none⟩ = some (.slice A4 (rd_T48 l i).f1.f2.length c4') ∧ W'.cell? ⟨(ad.add (i.toNat * 5)).block, (ad.add (i.toNat * 5)).off + 4, none⟩ = some (.string (rd_T48 l i).f1.f3)) := by
    constructor
    intro W' hW'
    have q1 : ∀ p : Addr, p.block < V.heap.size → p.block ≠ mb → W'.cell? p = V.cell? p := fun p h1 h2 => World.cell?_of_block (w := V) (hW'.block p.block h1 h2)
    have hmb := hVe.hmb
    have q2 : ∀ j : Nat, W'.cell? ⟨(ad.add (i.toNat * 5)).block, j, none⟩ = V.cell? ⟨(ad.add (i.toNat * 5)).block, j, none⟩ := fun j => q1 _ hblkV (by simp at hblk ⊢; omega)
    exact ⟨(q1 _ (Nat.lt_of_lt_of_le hlt hbV.size) hVe.ne).trans v0, (q1 _ (blk_lt hsb) (by simp; omega)).trans s0, (q1 _ (blk_lt hsb) (by simp; omega)).trans s1, (q2 _).trans z0, (q2 _).trans z1, (q2 _).trans z2, (q2 _).trans z3⟩
  have hv0 := Below.refl V.heap.size V
  have HNK := Aside0.mk hnk
  clear hnk
  clear hV hbW nq hl0 k1 k2 k3 x0 y0 y1 y2 y3 g3 g4 he hVe hbV hsb hkb ih HKB HKC hm v0 v1 s0 s1 z0 z1 z2 z3
  go_region_held3 (fun w' => w'.cell? ⟨bb, 0, none⟩ = some (.slice (some ad) l.length c0) ∧ w'.cell? ⟨w.heap.size, 0, none⟩ = some (.int .i64 f) ∧ w'.cell? ⟨w.heap.size, 1, none⟩ = some (.int .i64 g) ∧
      w'.cell? ⟨(ad.add (i.toNat * 5)).block, (ad.add (i.toNat * 5)).off + 1, none⟩ = some (.int .i64 (rd_T48 l i).f1.f0) ∧ w'.cell? ⟨(ad.add (i.toNat * 5)).block, (ad.add (i.toNat * 5)).off + 2, none⟩ = some (.slice A3 (rd_T48 l i).f1.f1.length c3') ∧
      w'.cell? ⟨(ad.add (i.toNat * 5)).block, (ad.add (i.toNat * 5)).off + 3, none⟩ = some (.slice A4 (rd_T48 l i).f1.f2.length c4') ∧ w'.cell? ⟨(ad.add (i.toNat * 5)).block, (ad.add (i.toNat * 5)).off + 4, none⟩ = some (.string (rd_T48 l i).f1.f3))
    (first | exact HS.out _ (KB.of_below hv0) | exact HS.out _ (KB.of_below (below_drew1 hv0)) | exact HS.out _ (KB.of_below hb1) | exact HS.out _ (KB.of_below (below_drew1 hb1)) | exact HS.out _ hkb2 | trace_state)
    (first | (go_at_call 31; refine (hfind _ (by first | exact hv0 | exact below_drew1 hv0)).mono ?_; rintro e w1 ⟨rfl, hb1'⟩; have hb1 := (show Below V.heap.size V w1 from (by first | exact hb1' | exact hv0.trans hb1' | exact (below_drew1 hv0).trans hb1')); clear hb1') | (go_at_call 25; refine (hmon _ (by first | exact hb1 | exact below_drew1 hb1)).mono ?_; rintro e w2 ⟨rfl, hkb2', hmm2⟩; have hkb2 : KB (fun j => j = mb) V w2 := (KB.of_below hb1).trans hkb2' (fun j h => .inl h); clear hkb2'))
  go_wp2
  have u1 : w2.cell? ⟨bb, 1, none⟩ = some (.map (some mb)) := (World.cell?_of_block (w := V) (hkb2.block bb (Nat.lt_of_lt_of_le hlt HV.out.size) HE.out.ne)).trans ((HV.out.cell (p := ⟨bb, 1, none⟩) hlt).trans (blk_cell HE.out.blk 1))
  have ukb : w2.heap[w.heap.size + 1]? = some (.cells #[.string name, .int .i64 f] 90 (0, 0)) := hkb2.blk HKB2.out (by omega)
  have u2 : w2.cell? ⟨w.heap.size + 1, 0, none⟩ = _ := blk_cell ukb 0
  have u3 : w2.cell? ⟨w.heap.size + 1, 1, none⟩ = _ := blk_cell ukb 1
  simp only [List.getElem?_toArray, List.getElem?_cons_zero, List.getElem?_cons_succ] at u2 u3
  obtain ⟨kl, hkl⟩ := asked.key name f hs hff
  obtain ⟨D, K, hown, hnd, hkk, hrr⟩ := hmm2
  have hKn : K.length ≤ 240000000 := by
    have h1 := keys_len K (names l) F hnd (fun q hq => ⟨(hkk q hq).1, (hkk q hq).2.1⟩)
    have h2 : (names l).length ≤ 24 := by simp only [names, List.length_map]; exact HE.out.len
    have h3 := HE.out.lenF
    exact Nat.le_trans h1 (Nat.le_trans (Nat.mul_le_mul h2 h3) (by decide))
  have HKK := Aside0.mk hkk
  have HRR := Aside0.mk hrr
  have HND := Aside0.mk hnd
  have HKB4 := Aside0.mk (show KB (fun j => j = mb) w w2 from (KB.of_below HV.out).trans hkb2 (fun j h => .inl h))
  clear hkk hrr hnd hkb2 ukb hmon hfind
  go_still_tail 6, (by kernel_rfl)
  change wpList _ _ _ _ _ w2.drew
  go_wp2_with (at_mapUpdate; refine wpList_mapUpdate_own _ rfl _ _ _ 56 rfl 90 67 asked.law Tryd.underlying56 _ mb K.length D rfl hown (by unfold maxLen; omega) _ _ _ rfl rfl hkl _ [] (plainElem_int Tryd.underlying67 hwf) ?_; intro w3 hown3 hgrow3)
  go_ret
  refine ⟨rfl, ?_, ?_⟩
  · exact HKB4.out.trans (S2 := fun j => j = mb) ⟨hgrow3.os, hgrow3.tape, hgrow3.output, hgrow3.size, fun j hj hn => hgrow3.block j hj (by simpa using hn)⟩ (fun j h => .inl h)
  · exact Memo.put2 hown HND.out HKK.out HRR.out hkl hname hf HNK.out hown3
theorem ba_ext {a b : ByteArray} (h : a.toList = b.toList) : a = b := by
  rw [ByteArray.toList_eq, ByteArray.toList_eq] at h
  exact ByteArray.ext (Array.toList_inj.mp h)
theorem find_name {l : List S48} {name : ByteArray} {i : Int} (h : cal_Find.f l name = some i) (h0 : 0 ≤ i) : name ∈ names l := by
  unfold cal_Find.f at h
  split at h
  · have e := Option.some.inj h
    unfold findIdx1 at e
    split at e
    · rename_i ha
      obtain ⟨x, hx, hp⟩ := List.any_eq_true.mp ha
      have : x.f0 = name := ba_ext (beq_iff_eq.mp hp)
      exact List.mem_map.mpr ⟨x, hx, this⟩
    · omega
  · cases h
def NamedOK (l : List S48) (A0 : Option Addr) (c0 : Nat) (L : Int → Int) (F : List Int) (bb mb : Nat) (met : Int) (w0 : World) (k : Nat) : Prop :=
  ∀ (name : ByteArray) (f g r : Int) (w : World), Env l A0 c0 L F bb mb met w0 w → f ∈ F → L f = g → named.f k l name f g = some r →
    Calls Tryd.prog 39 #[.pointer (some ⟨bb, 0, none⟩), .string name, .agg #[.int .i64 f, .int .i64 g]] w fun e w' => e = .returned (.int .u32 r) ∧ KB (fun j => j = mb) w w' ∧ Memo l L F mb w'
theorem zero67 (w : World) : (zeroValue 67).run Tryd.prog w = .ok (.int .u32 0) w := by kernel_rfl
theorem memo_look {w W : World} {mb n : Nat} {D : DataW Unit} (hown : w.ownsMap Tryd.prog 90 (plainElem Tryd.prog 67) mb n D) (hW : W.heap[mb]? = w.heap[mb]?) {name : ByteArray} {f : Int} {kl : Lit} (hkl : keyOf Tryd.prog 90 (.agg #[.string name, .int .i64 f]) = some kl) :
    ∃ c, D.atKey kl (.lit (.int .u32 0)) = .lit (.int .u32 c) ∧ (Instr.lookup 56 (.map (some mb)) (.agg #[.string name, .int .i64 f]) true).run Tryd.prog W = .ok (.tuple #[.int .u32 c, .bool (Go.Maps.has D kl)]) W := by
  have hown' : W.ownsMap Tryd.prog 90 (plainElem Tryd.prog 67) mb n D := by
    obtain ⟨es, clock, hm, r⟩ := hown
    exact ⟨es, clock, hW.trans hm, r⟩
  obtain ⟨v, ps, hrun, hv⟩ := hown'.look_ok asked.law Tryd.underlying56 (zero67 W) (plainElem_int Tryd.underlying67 (by decide)) hkl
  obtain ⟨c, rfl, hc, hwc⟩ := plainElem_int_inv Tryd.underlying67 hv
  exact ⟨c, congrArg Prod.fst hc, hrun⟩
theorem named.calls (l : List S48) (A0 : Option Addr) (c0 : Nat) (L : Int → Int) (F : List Int) (bb mb : Nat) (met : Int) (w0 : World) (k : Nat) (ih : MonthOK l A0 c0 L F bb mb met w0 k) : NamedOK l A0 c0 L F bb mb met w0 (k + 1) := by
  intro name f g r w he hf hL h
  have h0 := h
  rw [named.f.eq_2] at h
  by_cases hs : name.size ≤ maxLen
  rotate_left
  · rw [if_neg hs] at h; cases h
  rw [if_pos hs] at h
  by_cases hff : (Lit.int .i64 f).wf = true
  rotate_left
  · rw [if_neg hff] at h; cases h
  rw [if_pos hff] at h
  obtain ⟨i, hi, h⟩ := Option.bind_eq_some_iff.mp h
  by_cases d4 : 0 ≤ i
  rotate_left
  · rw [if_neg d4] at h; cases h
  rw [if_pos d4] at h
  by_cases d3 : i < (l.length : Int)
  rotate_left
  · rw [if_neg d3] at h; cases h
  rw [if_pos d3] at h
  obtain ⟨m, hm, h⟩ := Option.bind_eq_some_iff.mp h
  by_cases hwf : (Lit.int .u32 m).wf = true
  rotate_left
  · rw [if_neg hwf] at h; cases h
  rw [if_pos hwf] at h
  obtain rfl := Option.some.inj h
  clear h
  obtain ⟨kl, hkl⟩ := asked.key name f hs hff
  have hmem := he.memo
  obtain ⟨D, K, hown, hnd, hkk, hrr⟩ := hmem
  obtain ⟨c, hc, _⟩ := memo_look hown rfl hkl
  have hlook : ∀ W : World, W.heap[mb]? = w.heap[mb]? → (Instr.lookup 56 (.map (some mb)) (.agg #[.string name, .int .i64 f]) true).run Tryd.prog W = .ok (.tuple #[.int .u32 c, .bool (Go.Maps.has D kl)]) W := by
    intro W hW
    obtain ⟨c', hc', hrun⟩ := memo_look hown hW hkl
    rw [hc] at hc'
    cases hc'
    exact hrun
  subst hL
  cases hh : Go.Maps.has D kl with
  | true =>
    rw [hh] at hlook
    obtain ⟨m', k', e1, e2⟩ := hrr name f kl hkl hh
    have : c = m' := by rw [hc] at e1; cases e1; rfl
    subst this
    obtain rfl := named.one h0 e2
    exact (named.hit l A0 c0 L F bb mb met w0 w name f (L f) _ he hlook).mono fun e w' ⟨h1, h2⟩ => ⟨h1, KB.of_below h2, he.memo.of_block (h2.block _ (by obtain ⟨es, clock, hm, r⟩ := hown; exact blk_lt hm))⟩
  | false =>
    rw [hh] at hlook
    exact named.miss l A0 c0 L F bb mb met w0 w name f (L f) c k i m he hf rfl hs hff hi d4 d3 (find_name hi d4) hm hwf h0 ih hlook
theorem Env.mlt {l A0 c0 L F bb mb met w0 w} (h : Env l A0 c0 L F bb mb met w0 w) : mb < w.heap.size := by
  obtain ⟨D, K, ⟨es, clock, hm, r⟩, h2⟩ := h.memo; exact blk_lt hm
theorem Env.fin {l A0 c0 L F bb mb met w0 w w'} (h : Env l A0 c0 L F bb mb met w0 w) (hb : Below w.heap.size w w') : KB (fun j => j = mb) w w' ∧ Memo l L F mb w' :=
  ⟨KB.of_below hb, h.memo.of_block (hb.block _ h.mlt)⟩
theorem node_base (w : World) (o1 o2 : Obj) : Below w.heap.size w ((w.alloc o1).alloc o2) ∧ ((w.alloc o1).alloc o2).heap[w.heap.size]? = some o1 ∧ ((w.alloc o1).alloc o2).heap[w.heap.size + 1]? = some o2 := by
  refine ⟨below_alloc (below_alloc (Below.refl _ _) _) _, blk_alloc (blk_new w _) _, ?_⟩
  have := blk_new (w.alloc o1) o2
  rwa [show (w.alloc o1).heap.size = w.heap.size + 1 from by simp] at this
theorem below_go {B : Nat} {W w1 w2 : World} (h : Below B W w1) (hB : B ≤ w1.heap.size) (h2 : Below w1.heap.size w1 w2) : Below B W w2 := h.trans (h2.mono hB)
theorem KB.go {mb : Nat} {W w1 w2 : World} (h : KB (fun j => j = mb) W w1) (h2 : Below w1.heap.size w1 w2) : KB (fun j => j = mb) W w2 := h.then_below h2
theorem KB.drew {S : Nat → Prop} {W w1 : World} (h : KB S W w1) : KB S W w1.drew := ⟨h.os, h.tape, h.output, h.size, h.block⟩
theorem KB.drawn {S : Nat → Prop} {W w1 w2 : World} (h : KB S W w1) (h2 : Drawn0 w1 w2) : KB S W w2 := h.then_below h2.below
theorem Memo.go {l L F mb} {w w' : World} (h : Memo l L F mb w) (hb : Below w.heap.size w w') : Memo l L F mb w' := by
  obtain ⟨D, K, ⟨es, clock, hm, r⟩, h2⟩ := h
  exact ⟨D, K, ⟨es, clock, (hb.block _ (blk_lt hm)).trans hm, r⟩, h2⟩
set_option maxHeartbeats 8000000 in
set_option maxRecDepth 100000 in
theorem month.c1 (l : List S48) (A0 : Option Addr) (c0 : Nat) (L : Int → Int) (F : List Int) (bb mb : Nat) (met : Int) (w0 : World) (k : Nat) (ns : List Int) (ks : List S31) (nm : ByteArray) (A1 : Option Addr) (c1 : Nat) (A2 : Option Addr) (c2 : Nat) (f g r : Int) (w : World)
    (he : Env l A0 c0 L F bb mb met w0 w) (h1 : (Kd.int .i64).C w0 A1 ns.length ns) (hl : 0 < ns.length) (d : Int × Int) (hd : date_Weekday.f f = some d) (hr : mask_Week.f k ((rd ns 0) % 256) d.1 g = some r) :
    Calls Tryd.prog 25 #[.pointer (some ⟨bb, 0, none⟩), .agg #[.int .i64 1, .slice A1 ns.length c1, .slice A2 ks.length c2, .string nm], .agg #[.int .i64 f, .int .i64 g]] w fun e w' => e = .returned (.int .u32 r) ∧ KB (fun j => j = mb) w w' ∧ Memo l L F mb w' := by
  obtain ⟨ad, e, hx⟩ := Kd.at_int h1 0 (by omega) (by omega)
  cases e
  have hblk := World.block_lt_of_cell? w0 _ hx
  go_enter Tryd.func25, Tryd.ntmps25
  go_wp2_with (fail)
  obtain ⟨hb, kn, kp⟩ := node_base w (.cells #[.int .i64 1, .slice (some ad) ns.length c1, .slice A2 ks.length c2, .string nm] 31 (0, 0)) (.cells #[.int .i64 f, .int .i64 g] 64 (0, 0))
  obtain ⟨W, hW⟩ : ∃ W, W = (w.alloc (.cells #[.int .i64 1, .slice (some ad) ns.length c1, .slice A2 ks.length c2, .string nm] 31 (0, 0))).alloc (.cells #[.int .i64 f, .int .i64 g] 64 (0, 0)) := ⟨_, rfl⟩
  rw [← hW] at hb kn kp ⊢
  clear hW
  have hmb := he.mlt
  have HS : Aside0 (∀ W' : World, KB (fun j => j = mb) W W' → W'.cell? ⟨w.heap.size, 1, none⟩ = some (.slice (some ad) ns.length c1) ∧ W'.cell? ⟨w.heap.size + 1, 1, none⟩ = some (.int .i64 g) ∧ W'.cell? ad = some (.int .i64 (rd ns 0))) := by
    constructor
    intro W' hW'
    have nn : w.heap.size ≠ mb := by omega
    have np : w.heap.size + 1 ≠ mb := by omega
    have b_ : ∀ {q : Nat} {o : Obj} (hq : W.heap[q]? = some o) (j : Nat), q ≠ mb → W'.cell? ⟨q, j, none⟩ = W.cell? ⟨q, j, none⟩ := fun {q o} hq j hn => World.cell?_of_block (w := W) (hW'.block q (blk_lt hq) hn)
    have x_ : ∀ p : Addr, p.block < w0.heap.size → W'.cell? p = w0.cell? p := fun p hp => ((hW'.below (he.below.trans (hb.mono he.below.size)) (fun j e => e ▸ he.hmb)).cell hp)
    exact ⟨(b_ kn 1 nn).trans (blk_cell kn 1), (b_ kp 1 np).trans (blk_cell kp 1), (x_ _ hblk).trans hx⟩
  have p0 : W.cell? ⟨w.heap.size + 1, 0, none⟩ = _ := blk_cell kp 0
  simp only [List.getElem?_toArray, List.getElem?_cons_zero, List.getElem?_cons_succ] at p0
  have HB := Aside0.mk hb
  have HE := Aside0.mk he
  have hWW := KB.refl (fun j => j = mb) W
  have HEW := Aside0.mk (he.below_ hb)
  have MW := Aside0.mk (he.memo.of_block (hb.block _ hmb))
  clear hmb
  clear hb kn kp he h1 hx
  have hl2 : decide ((0 : Int) < (ns.length : Int)) = true := decide_eq_true (by omega)
  have hwk := fun (W' : World) => mask_Week.calls k ((rd ns 0) % 256) d.1 g r W' hr
  have hwd := fun (W' : World) => date_Weekday.calls f d.1 d.2 W' hd
  clear hr hd
  go_wp2_with (go_at_call 34; refine (hwd _).mono ?_; rintro e w1 ⟨rfl, hb1'⟩; have hb1 := Drawn0.below hb1'; clear hb1'; have kb1 := (show KB (fun j => j = mb) W w1 from (by first | exact hWW.go hb1 | exact hWW.drew.go hb1)); have mm1 := (show Memo l L F mb w1 from (by first | exact MW.out.go hb1 | exact (show Memo l L F mb W.drew from MW.out).go hb1)); clear hb1)
  clear p0
  go_region_held3 (fun W' => W'.cell? ⟨w.heap.size, 1, none⟩ = some (.slice (some ad) ns.length c1) ∧ W'.cell? ⟨w.heap.size + 1, 1, none⟩ = some (.int .i64 g) ∧ W'.cell? ad = some (.int .i64 (rd ns 0)))
    (first | exact HS.out _ kb2 | exact HS.out _ kb2.drew | exact HS.out _ kb1 | exact HS.out _ kb1.drew | exact HS.out _ hWW | exact HS.out _ hWW.drew)
    (first | (go_at_call 35; refine (hwk _).mono ?_; rintro e w2 ⟨rfl, hb2⟩; have kb2 := (show KB (fun j => j = mb) W w2 from (by first | exact kb1.go hb2 | exact kb1.drew.go hb2)); have mm2 := (show Memo l L F mb w2 from (by first | exact mm1.go hb2 | exact (show Memo l L F mb w1.drew from mm1).go hb2)); clear hb2))
  go_wp2
  go_ret
  exact ⟨rfl, (KB.of_below HB.out).trans kb2 (fun j h => .inl h), mm2⟩
set_option maxHeartbeats 8000000 in
set_option maxRecDepth 100000 in
theorem month.c3 (l : List S48) (A0 : Option Addr) (c0 : Nat) (L : Int → Int) (F : List Int) (bb mb : Nat) (met : Int) (w0 : World) (k : Nat) (ns : List Int) (ks : List S31) (nm : ByteArray) (A1 : Option Addr) (c1 : Nat) (A2 : Option Addr) (c2 : Nat) (f g r : Int) (w : World)
    (he : Env l A0 c0 L F bb mb met w0 w) (h1 : (Kd.int .i64).C w0 A1 ns.length ns) (h1c : ns.length ≤ c1) (hr : mask_Days.f k ns g = some r) :
    Calls Tryd.prog 25 #[.pointer (some ⟨bb, 0, none⟩), .agg #[.int .i64 3, .slice A1 ns.length c1, .slice A2 ks.length c2, .string nm], .agg #[.int .i64 f, .int .i64 g]] w fun e w' => e = .returned (.int .u32 r) ∧ KB (fun j => j = mb) w w' ∧ Memo l L F mb w' := by
  go_enter Tryd.func25, Tryd.ntmps25
  go_wp2_with (fail)
  obtain ⟨hb, kn, kp⟩ := node_base w (.cells #[.int .i64 3, .slice A1 ns.length c1, .slice A2 ks.length c2, .string nm] 31 (0, 0)) (.cells #[.int .i64 f, .int .i64 g] 64 (0, 0))
  obtain ⟨W, hW⟩ : ∃ W, W = (w.alloc (.cells #[.int .i64 3, .slice A1 ns.length c1, .slice A2 ks.length c2, .string nm] 31 (0, 0))).alloc (.cells #[.int .i64 f, .int .i64 g] 64 (0, 0)) := ⟨_, rfl⟩
  rw [← hW] at hb kn kp ⊢
  clear hW
  have hmb := he.mlt
  have HS : Aside0 (∀ W' : World, KB (fun j => j = mb) W W' → W'.cell? ⟨w.heap.size, 1, none⟩ = some (.slice A1 ns.length c1) ∧ W'.cell? ⟨w.heap.size + 1, 1, none⟩ = some (.int .i64 g)) := by
    constructor
    intro W' hW'
    have nn : w.heap.size ≠ mb := by omega
    have np : w.heap.size + 1 ≠ mb := by omega
    have b_ : ∀ {q : Nat} {o : Obj} (hq : W.heap[q]? = some o) (j : Nat), q ≠ mb → W'.cell? ⟨q, j, none⟩ = W.cell? ⟨q, j, none⟩ := fun {q o} hq j hn => World.cell?_of_block (w := W) (hW'.block q (blk_lt hq) hn)
    have x_ : ∀ p : Addr, p.block < w0.heap.size → W'.cell? p = w0.cell? p := fun p hp => ((hW'.below (he.below.trans (hb.mono he.below.size)) (fun j e => e ▸ he.hmb)).cell hp)
    exact ⟨(b_ kn 1 nn).trans (blk_cell kn 1), (b_ kp 1 np).trans (blk_cell kp 1)⟩
  have HB := Aside0.mk hb
  have HE := Aside0.mk he
  have hWW := KB.refl (fun j => j = mb) W
  have HEW := Aside0.mk (he.below_ hb)
  have MW := Aside0.mk (he.memo.of_block (hb.block _ hmb))
  clear hmb
  have hcall := fun (W' : World) (hW : Below W.heap.size W W') => mask_Days.calls k A1 c1 ns g r W' (Kd.C_below h1 ((he.below_ hb).below.trans (hW.mono (he.below_ hb).below.size))) h1c hr
  obtain ⟨p1, p2⟩ := HS.out W hWW
  clear hb kn kp he h1 hr
  go_wp2_with (go_at_call 36; refine (hcall _ (Below.refl _ _)).mono ?_; rintro e w1 ⟨rfl, hb1⟩; have kb1 := (show KB (fun j => j = mb) W w1 from (by first | exact hWW.go hb1 | exact hWW.drew.go hb1)); have mm1 := (show Memo l L F mb w1 from (by first | exact MW.out.go hb1 | exact (show Memo l L F mb W.drew from MW.out).go hb1)); clear hb1)
  go_ret
  exact ⟨rfl, (KB.of_below HB.out).trans kb1 (fun j h => .inl h), mm1⟩
set_option maxHeartbeats 8000000 in
set_option maxRecDepth 100000 in
theorem month.c4 (l : List S48) (A0 : Option Addr) (c0 : Nat) (L : Int → Int) (F : List Int) (bb mb : Nat) (met : Int) (w0 : World) (k : Nat) (ns : List Int) (ks : List S31) (nm : ByteArray) (A1 : Option Addr) (c1 : Nat) (A2 : Option Addr) (c2 : Nat) (f g r : Int) (w : World)
    (he : Env l A0 c0 L F bb mb met w0 w) (h1 : (Kd.int .i64).C w0 A1 ns.length ns) (hl : 1 < ns.length) (d : Int × Int × Int × Int) (hd : date_Date.f k f = some d) (q : Int × Int) (hq : week_Nth.f k d.1 d.2.1 (rd ns 0) (rd ns 1) = some q) (hr : (if q.2 = 0 then cal_span_bit.f f g q.1 else some 0) = some r) :
    Calls Tryd.prog 25 #[.pointer (some ⟨bb, 0, none⟩), .agg #[.int .i64 4, .slice A1 ns.length c1, .slice A2 ks.length c2, .string nm], .agg #[.int .i64 f, .int .i64 g]] w fun e w' => e = .returned (.int .u32 r) ∧ KB (fun j => j = mb) w w' ∧ Memo l L F mb w' := by
  obtain ⟨ad, e, hx⟩ := Kd.at_int h1 0 (by omega) (by omega)
  cases e
  have hblk := World.block_lt_of_cell? w0 _ hx
  obtain ⟨ad', e, hy⟩ := Kd.at_int h1 1 (by omega) (by omega)
  cases e
  go_enter Tryd.func25, Tryd.ntmps25
  go_wp2_with (fail)
  obtain ⟨hb, kn, kp⟩ := node_base w (.cells #[.int .i64 4, .slice (some ad) ns.length c1, .slice A2 ks.length c2, .string nm] 31 (0, 0)) (.cells #[.int .i64 f, .int .i64 g] 64 (0, 0))
  obtain ⟨W, hW⟩ : ∃ W, W = (w.alloc (.cells #[.int .i64 4, .slice (some ad) ns.length c1, .slice A2 ks.length c2, .string nm] 31 (0, 0))).alloc (.cells #[.int .i64 f, .int .i64 g] 64 (0, 0)) := ⟨_, rfl⟩
  rw [← hW] at hb kn kp ⊢
  clear hW
  have hmb := he.mlt
  have HS : Aside0 (∀ W' : World, KB (fun j => j = mb) W W' → W'.cell? ⟨w.heap.size, 1, none⟩ = some (.slice (some ad) ns.length c1) ∧ W'.cell? ⟨w.heap.size + 1, 0, none⟩ = some (.int .i64 f) ∧ W'.cell? ⟨w.heap.size + 1, 1, none⟩ = some (.int .i64 g) ∧ W'.cell? ad = some (.int .i64 (rd ns 0)) ∧ W'.cell? ⟨ad.block, ad.off + 1, none⟩ = some (.int .i64 (rd ns 1))) := by
    constructor
    intro W' hW'
    have nn : w.heap.size ≠ mb := by omega
    have np : w.heap.size + 1 ≠ mb := by omega
    have b_ : ∀ {q : Nat} {o : Obj} (hq : W.heap[q]? = some o) (j : Nat), q ≠ mb → W'.cell? ⟨q, j, none⟩ = W.cell? ⟨q, j, none⟩ := fun {q o} hq j hn => World.cell?_of_block (w := W) (hW'.block q (blk_lt hq) hn)
    have x_ : ∀ p : Addr, p.block < w0.heap.size → W'.cell? p = w0.cell? p := fun p hp => ((hW'.below (he.below.trans (hb.mono he.below.size)) (fun j e => e ▸ he.hmb)).cell hp)
    exact ⟨(b_ kn 1 nn).trans (blk_cell kn 1), (b_ kp 0 np).trans (blk_cell kp 0), (b_ kp 1 np).trans (blk_cell kp 1), (x_ _ hblk).trans hx, (x_ ⟨ad.block, ad.off + 1, none⟩ hblk).trans hy⟩
  have p0 : W.cell? ⟨w.heap.size + 1, 0, none⟩ = _ := blk_cell kp 0
  simp only [List.getElem?_toArray, List.getElem?_cons_zero, List.getElem?_cons_succ] at p0
  have HB := Aside0.mk hb
  have HE := Aside0.mk he
  have hWW := KB.refl (fun j => j = mb) W
  have HEW := Aside0.mk (he.below_ hb)
  have MW := Aside0.mk (he.memo.of_block (hb.block _ hmb))
  clear hmb
  clear hb kn kp he h1 hx hy
  have hl0 : 0 < ns.length := by omega
  have hl2 : decide ((0 : Int) < (ns.length : Int)) = true := decide_eq_true (by omega)
  have hl3 : (1 : Int) < (ns.length : Int) := by omega
  have hwk := fun (W' : World) => week_Nth.calls k d.1 d.2.1 (rd ns 0) (rd ns 1) q.1 q.2 W' hq
  have hwd := fun (W' : World) => date_Date.calls k f d.1 d.2.1 d.2.2.1 d.2.2.2 W' hd
  clear hq hd
  go_wp2_with (go_at_call 37; refine (hwd _).mono ?_; rintro e w1 ⟨rfl, hb1⟩; have kb1 := (show KB (fun j => j = mb) W w1 from (by first | exact hWW.go hb1 | exact hWW.drew.go hb1)); have mm1 := (show Memo l L F mb w1 from (by first | exact MW.out.go hb1 | exact (show Memo l L F mb W.drew from MW.out).go hb1)); clear hb1)
  clear p0
  go_region_held3 (fun W' => W'.cell? ⟨w.heap.size, 1, none⟩ = some (.slice (some ad) ns.length c1) ∧ W'.cell? ⟨w.heap.size + 1, 0, none⟩ = some (.int .i64 f) ∧ W'.cell? ⟨w.heap.size + 1, 1, none⟩ = some (.int .i64 g) ∧ W'.cell? ad = some (.int .i64 (rd ns 0)) ∧ W'.cell? ⟨ad.block, ad.off + 1, none⟩ = some (.int .i64 (rd ns 1)))
    (first | exact HS.out _ kb2 | exact HS.out _ kb2.drew | exact HS.out _ kb1 | exact HS.out _ kb1.drew | exact HS.out _ hWW | exact HS.out _ hWW.drew)
    (first | (go_at_call 38; refine (hwk _).mono ?_; rintro e w2 ⟨rfl, hb2⟩; have kb2 := (show KB (fun j => j = mb) W w2 from (by first | exact kb1.go hb2 | exact kb1.drew.go hb2)); have mm2 := (show Memo l L F mb w2 from (by first | exact mm1.go hb2 | exact (show Memo l L F mb w1.drew from mm1).go hb2)); clear hb2))
  by_cases q2 : q.2 = 0
  · rw [if_pos q2] at hr
    have q2b : (q.2 == 0) = true := beq_iff_eq.mpr q2
    obtain ⟨u1, u2, u3, u4, u5⟩ := HS.out w2 kb2
    have hsb := fun (W' : World) => cal_span_bit.calls f g q.1 r W' hr
    clear q2 hr
    go_wp2_with (go_at_call 26; refine (hsb _).mono ?_; rintro e w3 ⟨rfl, hb3⟩; have kb3 := (show KB (fun j => j = mb) W w3 from (by first | exact kb2.go hb3 | exact kb2.drew.go hb3)); have mm3 := (show Memo l L F mb w3 from (by first | exact mm2.go hb3 | exact (show Memo l L F mb w2.drew from mm2).go hb3)); clear hb3)
    go_ret
    exact ⟨rfl, (KB.of_below HB.out).trans kb3 (fun j h => .inl h), mm3⟩
  · rw [if_neg q2] at hr
    obtain rfl := Option.some.inj hr
    have q2b : (q.2 == 0) = false := beq_eq_false_iff_ne.mpr q2
    clear q2 hr
    go_wp2
    go_ret
    exact ⟨rfl, (KB.of_below HB.out).trans kb2 (fun j h => .inl h), mm2⟩
set_option maxHeartbeats 8000000 in
set_option maxRecDepth 100000 in
theorem month.c6 (l : List S48) (A0 : Option Addr) (c0 : Nat) (L : Int → Int) (F : List Int) (bb mb : Nat) (met : Int) (w0 : World) (k : Nat) (ns : List Int) (ks : List S31) (nm : ByteArray) (A1 : Option Addr) (c1 : Nat) (A2 : Option Addr) (c2 : Nat) (f g r : Int) (w : World)
    (he : Env l A0 c0 L F bb mb met w0 w) (h1 : (Kd.int .i64).C w0 A1 ns.length ns) (hl : 1 < ns.length) (hr : cal_fiscal.f k (rd ns 0) (rd ns 1) f g = some r) :
    Calls Tryd.prog 25 #[.pointer (some ⟨bb, 0, none⟩), .agg #[.int .i64 6, .slice A1 ns.length c1, .slice A2 ks.length c2, .string nm], .agg #[.int .i64 f, .int .i64 g]] w fun e w' => e = .returned (.int .u32 r) ∧ KB (fun j => j = mb) w w' ∧ Memo l L F mb w' := by
  obtain ⟨ad, e, hx⟩ := Kd.at_int h1 0 (by omega) (by omega)
  cases e
  have hblk := World.block_lt_of_cell? w0 _ hx
  obtain ⟨ad', e, hy⟩ := Kd.at_int h1 1 (by omega) (by omega)
  cases e
  go_enter Tryd.func25, Tryd.ntmps25
  go_wp2_with (fail)
  obtain ⟨hb, kn, kp⟩ := node_base w (.cells #[.int .i64 6, .slice (some ad) ns.length c1, .slice A2 ks.length c2, .string nm] 31 (0, 0)) (.cells #[.int .i64 f, .int .i64 g] 64 (0, 0))
  obtain ⟨W, hW⟩ : ∃ W, W = (w.alloc (.cells #[.int .i64 6, .slice (some ad) ns.length c1, .slice A2 ks.length c2, .string nm] 31 (0, 0))).alloc (.cells #[.int .i64 f, .int .i64 g] 64 (0, 0)) := ⟨_, rfl⟩
  rw [← hW] at hb kn kp ⊢
  clear hW
  have hmb := he.mlt
  have HS : Aside0 (∀ W' : World, KB (fun j => j = mb) W W' → W'.cell? ⟨w.heap.size, 1, none⟩ = some (.slice (some ad) ns.length c1) ∧ W'.cell? ⟨w.heap.size + 1, 0, none⟩ = some (.int .i64 f) ∧ W'.cell? ⟨w.heap.size + 1, 1, none⟩ = some (.int .i64 g) ∧ W'.cell? ad = some (.int .i64 (rd ns 0)) ∧ W'.cell? ⟨ad.block, ad.off + 1, none⟩ = some (.int .i64 (rd ns 1))) := by
    constructor
    intro W' hW'
    have nn : w.heap.size ≠ mb := by omega
    have np : w.heap.size + 1 ≠ mb := by omega
    have b_ : ∀ {q : Nat} {o : Obj} (hq : W.heap[q]? = some o) (j : Nat), q ≠ mb → W'.cell? ⟨q, j, none⟩ = W.cell? ⟨q, j, none⟩ := fun {q o} hq j hn => World.cell?_of_block (w := W) (hW'.block q (blk_lt hq) hn)
    have x_ : ∀ p : Addr, p.block < w0.heap.size → W'.cell? p = w0.cell? p := fun p hp => ((hW'.below (he.below.trans (hb.mono he.below.size)) (fun j e => e ▸ he.hmb)).cell hp)
    exact ⟨(b_ kn 1 nn).trans (blk_cell kn 1), (b_ kp 0 np).trans (blk_cell kp 0), (b_ kp 1 np).trans (blk_cell kp 1), (x_ _ hblk).trans hx, (x_ ⟨ad.block, ad.off + 1, none⟩ hblk).trans hy⟩
  have HB := Aside0.mk hb
  have HE := Aside0.mk he
  have hWW := KB.refl (fun j => j = mb) W
  have HEW := Aside0.mk (he.below_ hb)
  have MW := Aside0.mk (he.memo.of_block (hb.block _ hmb))
  clear hmb
  clear hb kn kp he h1 hx hy
  have hl0 : 0 < ns.length := by omega
  have hl2 : decide ((0 : Int) < (ns.length : Int)) = true := decide_eq_true (by omega)
  have hl3 : (1 : Int) < (ns.length : Int) := by omega
  have hwk := fun (W' : World) => cal_fiscal.calls k (rd ns 0) (rd ns 1) f g r W' hr
  clear hr
  go_region_held3 (fun W' => W'.cell? ⟨w.heap.size, 1, none⟩ = some (.slice (some ad) ns.length c1) ∧ W'.cell? ⟨w.heap.size + 1, 0, none⟩ = some (.int .i64 f) ∧ W'.cell? ⟨w.heap.size + 1, 1, none⟩ = some (.int .i64 g) ∧ W'.cell? ad = some (.int .i64 (rd ns 0)) ∧ W'.cell? ⟨ad.block, ad.off + 1, none⟩ = some (.int .i64 (rd ns 1)))
    (first | exact HS.out _ kb1 | exact HS.out _ kb1.drew | exact HS.out _ hWW | exact HS.out _ hWW.drew)
    (first | (go_at_call 41; refine (hwk _).mono ?_; rintro e w1 ⟨rfl, hb1⟩; have kb1 := (show KB (fun j => j = mb) W w1 from (by first | exact hWW.go hb1 | exact hWW.drew.go hb1)); have mm1 := (show Memo l L F mb w1 from (by first | exact MW.out.go hb1 | exact (show Memo l L F mb W.drew from MW.out).go hb1)); clear hb1))
  go_wp2
  go_ret
  exact ⟨rfl, (KB.of_below HB.out).trans kb1 (fun j h => .inl h), mm1⟩
set_option maxHeartbeats 8000000 in
set_option maxRecDepth 100000 in
theorem month.c10 (l : List S48) (A0 : Option Addr) (c0 : Nat) (L : Int → Int) (F : List Int) (bb mb : Nat) (met : Int) (w0 : World) (k : Nat) (ns : List Int) (ks : List S31) (nm : ByteArray) (A1 : Option Addr) (c1 : Nat) (A2 : Option Addr) (c2 : Nat) (f g r : Int) (w : World)
    (he : Env l A0 c0 L F bb mb met w0 w) (hf : f ∈ F) (hL : L f = g) (hn : NamedOK l A0 c0 L F bb mb met w0 k) (hr : named.f k l nm f g = some r) :
    Calls Tryd.prog 25 #[.pointer (some ⟨bb, 0, none⟩), .agg #[.int .i64 10, .slice A1 ns.length c1, .slice A2 ks.length c2, .string nm], .agg #[.int .i64 f, .int .i64 g]] w fun e w' => e = .returned (.int .u32 r) ∧ KB (fun j => j = mb) w w' ∧ Memo l L F mb w' := by
  go_enter Tryd.func25, Tryd.ntmps25
  go_wp2_with (fail)
  obtain ⟨hb, kn, kp⟩ := node_base w (.cells #[.int .i64 10, .slice A1 ns.length c1, .slice A2 ks.length c2, .string nm] 31 (0, 0)) (.cells #[.int .i64 f, .int .i64 g] 64 (0, 0))
  obtain ⟨W, hW⟩ : ∃ W, W = (w.alloc (.cells #[.int .i64 10, .slice A1 ns.length c1, .slice A2 ks.length c2, .string nm] 31 (0, 0))).alloc (.cells #[.int .i64 f, .int .i64 g] 64 (0, 0)) := ⟨_, rfl⟩
  rw [← hW] at hb kn kp ⊢
  clear hW
  have hmb := he.mlt
  have HS : Aside0 (∀ W' : World, KB (fun j => j = mb) W W' → W'.cell? ⟨w.heap.size, 3, none⟩ = some (.string nm) ∧ W'.cell? ⟨w.heap.size + 1, 0, none⟩ = some (.int .i64 f) ∧ W'.cell? ⟨w.heap.size + 1, 1, none⟩ = some (.int .i64 g)) := by
    constructor
    intro W' hW'
    have nn : w.heap.size ≠ mb := by omega
    have np : w.heap.size + 1 ≠ mb := by omega
    have b_ : ∀ {q : Nat} {o : Obj} (hq : W.heap[q]? = some o) (j : Nat), q ≠ mb → W'.cell? ⟨q, j, none⟩ = W.cell? ⟨q, j, none⟩ := fun {q o} hq j hn => World.cell?_of_block (w := W) (hW'.block q (blk_lt hq) hn)
    have x_ : ∀ p : Addr, p.block < w0.heap.size → W'.cell? p = w0.cell? p := fun p hp => ((hW'.below (he.below.trans (hb.mono he.below.size)) (fun j e => e ▸ he.hmb)).cell hp)
    exact ⟨(b_ kn 3 nn).trans (blk_cell kn 3), (b_ kp 0 np).trans (blk_cell kp 0), (b_ kp 1 np).trans (blk_cell kp 1)⟩
  have HB := Aside0.mk hb
  have HE := Aside0.mk he
  have hWW := KB.refl (fun j => j = mb) W
  have HEW := Aside0.mk (he.below_ hb)
  have MW := Aside0.mk (he.memo.of_block (hb.block _ hmb))
  clear hmb
  have hcall := fun (W' : World) (hW : Below W.heap.size W W') => hn nm f g r W' ((he.below_ hb).below_ hW) hf hL hr
  obtain ⟨p1, p2, p3⟩ := HS.out W hWW
  clear hb kn kp he hr
  have HN := Aside0.mk hn
  clear hn
  go_wp2_with (go_at_call 39; refine (hcall _ (Below.refl _ _)).mono ?_; rintro e w1 ⟨rfl, kk1, mm1⟩; have kb1 := (show KB (fun j => j = mb) W w1 from (by first | exact hWW.trans kk1 (fun j h => .inl h) | exact hWW.drew.trans kk1 (fun j h => .inl h))); clear kk1)
  go_ret
  exact ⟨rfl, (KB.of_below HB.out).trans kb1 (fun j h => .inl h), mm1⟩
set_option maxHeartbeats 8000000 in
set_option maxRecDepth 100000 in
theorem month.c5 (l : List S48) (A0 : Option Addr) (c0 : Nat) (L : Int → Int) (F : List Int) (bb mb : Nat) (met : Int) (w0 : World) (k : Nat) (ns : List Int) (ks : List S31) (nm : ByteArray) (A1 : Option Addr) (c1 : Nat) (A2 : Option Addr) (c2 : Nat) (f g r : Int) (w : World)
    (he : Env l A0 c0 L F bb mb met w0 w) (h1 : (Kd.int .i64).C w0 A1 ns.length ns) (hl : 0 < ns.length) (hf : f ∈ F) (hL : L f = g) (hn : NamedOK l A0 c0 L F bb mb met w0 k) (m d : Int) (hm : named.f k l nm f g = some m) (hd : mask_Month_Nth.f k m (rd ns 0) = some d) (hr : (if d > 0 then cal_span_bit.f f g (wrap64 (wrap64 (f + d) - 1)) else some 0) = some r) :
    Calls Tryd.prog 25 #[.pointer (some ⟨bb, 0, none⟩), .agg #[.int .i64 5, .slice A1 ns.length c1, .slice A2 ks.length c2, .string nm], .agg #[.int .i64 f, .int .i64 g]] w fun e w' => e = .returned (.int .u32 r) ∧ KB (fun j => j = mb) w w' ∧ Memo l L F mb w' := by
  obtain ⟨ad, e, hx⟩ := Kd.at_int h1 0 (by omega) (by omega)
  cases e
  have hblk := World.block_lt_of_cell? w0 _ hx
  go_enter Tryd.func25, Tryd.ntmps25
  go_wp2_with (fail)
  obtain ⟨hb, kn, kp⟩ := node_base w (.cells #[.int .i64 5, .slice (some ad) ns.length c1, .slice A2 ks.length c2, .string nm] 31 (0, 0)) (.cells #[.int .i64 f, .int .i64 g] 64 (0, 0))
  obtain ⟨W, hW⟩ : ∃ W, W = (w.alloc (.cells #[.int .i64 5, .slice (some ad) ns.length c1, .slice A2 ks.length c2, .string nm] 31 (0, 0))).alloc (.cells #[.int .i64 f, .int .i64 g] 64 (0, 0)) := ⟨_, rfl⟩
  rw [← hW] at hb kn kp ⊢
  clear hW
  have hmb := he.mlt
  have HS : Aside0 (∀ W' : World, KB (fun j => j = mb) W W' → W'.cell? ⟨w.heap.size, 1, none⟩ = some (.slice (some ad) ns.length c1) ∧ W'.cell? ⟨w.heap.size, 3, none⟩ = some (.string nm) ∧ W'.cell? ⟨w.heap.size + 1, 0, none⟩ = some (.int .i64 f) ∧ W'.cell? ⟨w.heap.size + 1, 1, none⟩ = some (.int .i64 g) ∧ W'.cell? ad = some (.int .i64 (rd ns 0))) := by
    constructor
    intro W' hW'
    have nn : w.heap.size ≠ mb := by omega
    have np : w.heap.size + 1 ≠ mb := by omega
    have b_ : ∀ {q : Nat} {o : Obj} (hq : W.heap[q]? = some o) (j : Nat), q ≠ mb → W'.cell? ⟨q, j, none⟩ = W.cell? ⟨q, j, none⟩ := fun {q o} hq j hn => World.cell?_of_block (w := W) (hW'.block q (blk_lt hq) hn)
    have x_ : ∀ p : Addr, p.block < w0.heap.size → W'.cell? p = w0.cell? p := fun p hp => ((hW'.below (he.below.trans (hb.mono he.below.size)) (fun j e => e ▸ he.hmb)).cell hp)
    exact ⟨(b_ kn 1 nn).trans (blk_cell kn 1), (b_ kn 3 nn).trans (blk_cell kn 3), (b_ kp 0 np).trans (blk_cell kp 0), (b_ kp 1 np).trans (blk_cell kp 1), (x_ _ hblk).trans hx⟩
  have HB := Aside0.mk hb
  have HE := Aside0.mk he
  have hWW := KB.refl (fun j => j = mb) W
  have HEW := Aside0.mk (he.below_ hb)
  have MW := Aside0.mk (he.memo.of_block (hb.block _ hmb))
  clear hmb
  have hcall := fun (W' : World) (hW : Below W.heap.size W W') => hn nm f g m W' ((he.below_ hb).below_ hW) hf hL hm
  have hgk := fun (W' : World) (hW : KB (fun j => j = mb) W W') => mask_Month_Nth.calls k m (rd ns 0) d W' (GOK.below he.gok (hW.below (he.below_ hb).below (fun j e => e ▸ he.hmb))) hd
  clear hb kn kp he h1 hx hm hd
  have HN := Aside0.mk hn
  clear hn
  have hl2 : decide ((0 : Int) < (ns.length : Int)) = true := decide_eq_true (by omega)
  go_region_held3 (fun W' => W'.cell? ⟨w.heap.size, 1, none⟩ = some (.slice (some ad) ns.length c1) ∧ W'.cell? ⟨w.heap.size, 3, none⟩ = some (.string nm) ∧ W'.cell? ⟨w.heap.size + 1, 0, none⟩ = some (.int .i64 f) ∧ W'.cell? ⟨w.heap.size + 1, 1, none⟩ = some (.int .i64 g) ∧ W'.cell? ad = some (.int .i64 (rd ns 0)))
    (first | exact HS.out _ kb2 | exact HS.out _ kb2.drew | exact HS.out _ kb1 | exact HS.out _ kb1.drew | exact HS.out _ hWW | exact HS.out _ hWW.drew)
    (first | (go_at_call 39; refine (hcall _ (by first | exact Below.refl _ _ | exact below_drew1 (Below.refl _ _))).mono ?_; rintro e w1 ⟨rfl, kk1, mm1⟩; have kb1 := (show KB (fun j => j = mb) W w1 from (by first | exact hWW.trans kk1 (fun j h => .inl h) | exact hWW.drew.trans kk1 (fun j h => .inl h))); clear kk1) | (go_at_call 40; refine (hgk _ (by first | exact kb1 | exact kb1.drew)).mono ?_; rintro e w2 ⟨rfl, hb2⟩; have kb2 := (show KB (fun j => j = mb) W w2 from (by first | exact kb1.go hb2 | exact kb1.drew.go hb2)); have mm2 := (show Memo l L F mb w2 from (by first | exact mm1.go hb2 | exact (show Memo l L F mb w1.drew from mm1).go hb2)); clear hb2))
  by_cases q2 : d > 0
  · rw [if_pos q2] at hr
    have q2b : decide (0 < d) = true := decide_eq_true q2
    obtain ⟨u1, u2, u3, u4, u5⟩ := HS.out w2 kb2
    have hsb := fun (W' : World) => cal_span_bit.calls f g (wrap64 (wrap64 (f + d) - 1)) r W' hr
    clear q2 hr
    go_wp2_with (go_at_call 26; refine (hsb _).mono ?_; rintro e w3 ⟨rfl, hb3⟩; have kb3 := (show KB (fun j => j = mb) W w3 from (by first | exact kb2.go hb3 | exact kb2.drew.go hb3)); have mm3 := (show Memo l L F mb w3 from (by first | exact mm2.go hb3 | exact (show Memo l L F mb w2.drew from mm2).go hb3)); clear hb3)
    go_ret
    exact ⟨rfl, (KB.of_below HB.out).trans kb3 (fun j h => .inl h), mm3⟩
  · rw [if_neg q2] at hr
    obtain rfl := Option.some.inj hr
    have q2b : decide (0 < d) = false := decide_eq_false q2
    clear q2 hr
    go_wp2
    go_ret
    exact ⟨rfl, (KB.of_below HB.out).trans kb2 (fun j h => .inl h), mm2⟩
set_option maxHeartbeats 8000000 in
set_option maxRecDepth 100000 in
theorem month.c9 (l : List S48) (A0 : Option Addr) (c0 : Nat) (L : Int → Int) (F : List Int) (bb mb : Nat) (met : Int) (w0 : World) (k : Nat) (ns : List Int) (ks : List S31) (nm : ByteArray) (A1 : Option Addr) (c1 : Nat) (A2 : Option Addr) (c2 : Nat) (f g r : Int) (w : World)
    (he : Env l A0 c0 L F bb mb met w0 w) (h2 : k31.C w0 A2 ks.length ks) (h2c : ks.length ≤ c2) (hl : 0 < ks.length) (hf : f ∈ F) (hL : L f = g) (hn : MonthOK l A0 c0 L F bb mb met w0 k) (m : Int) (hm : month.f k l (rd_T31 ks 0) f g = some m) (hr : mask_Month_Not.f m g = some r) :
    Calls Tryd.prog 25 #[.pointer (some ⟨bb, 0, none⟩), .agg #[.int .i64 9, .slice A1 ns.length c1, .slice A2 ks.length c2, .string nm], .agg #[.int .i64 f, .int .i64 g]] w fun e w' => e = .returned (.int .u32 r) ∧ KB (fun j => j = mb) w w' ∧ Memo l L F mb w' := by
  obtain ⟨ad, A3, c3, A4, c4, e, y0, y1, y2, y3, l3, g3, l4, g4⟩ := at_T31 h2 0 (by omega) (by omega)
  cases e
  have hblk := World.block_lt_of_cell? w0 _ y0
  go_enter Tryd.func25, Tryd.ntmps25
  go_wp2_with (fail)
  obtain ⟨hb, kn, kp⟩ := node_base w (.cells #[.int .i64 9, .slice A1 ns.length c1, .slice (some ad) ks.length c2, .string nm] 31 (0, 0)) (.cells #[.int .i64 f, .int .i64 g] 64 (0, 0))
  obtain ⟨W, hW⟩ : ∃ W, W = (w.alloc (.cells #[.int .i64 9, .slice A1 ns.length c1, .slice (some ad) ks.length c2, .string nm] 31 (0, 0))).alloc (.cells #[.int .i64 f, .int .i64 g] 64 (0, 0)) := ⟨_, rfl⟩
  rw [← hW] at hb kn kp ⊢
  clear hW
  have hmb := he.mlt
  have HS : Aside0 (∀ W' : World, KB (fun j => j = mb) W W' → W'.cell? ⟨w.heap.size, 2, none⟩ = some (.slice (some ad) ks.length c2) ∧ W'.cell? ⟨w.heap.size + 1, 0, none⟩ = some (.int .i64 f) ∧ W'.cell? ⟨w.heap.size + 1, 1, none⟩ = some (.int .i64 g) ∧ W'.cell? ad = some (.int .i64 (rd_T31 ks 0).f0) ∧ W'.cell? ⟨ad.block, ad.off + 1, none⟩ = some (.slice A3 (rd_T31 ks 0).f1.length c3) ∧ W'.cell? ⟨ad.block, ad.off + 2, none⟩ = some (.slice A4 (rd_T31 ks 0).f2.length c4) ∧ W'.cell? ⟨ad.block, ad.off + 3, none⟩ = some (.string (rd_T31 ks 0).f3)) := by
    constructor
    intro W' hW'
    have nn : w.heap.size ≠ mb := by omega
    have np : w.heap.size + 1 ≠ mb := by omega
    have b_ : ∀ {q : Nat} {o : Obj} (hq : W.heap[q]? = some o) (j : Nat), q ≠ mb → W'.cell? ⟨q, j, none⟩ = W.cell? ⟨q, j, none⟩ := fun {q o} hq j hn => World.cell?_of_block (w := W) (hW'.block q (blk_lt hq) hn)
    have x_ : ∀ p : Addr, p.block < w0.heap.size → W'.cell? p = w0.cell? p := fun p hp => ((hW'.below (he.below.trans (hb.mono he.below.size)) (fun j e => e ▸ he.hmb)).cell hp)
    exact ⟨(b_ kn 2 nn).trans (blk_cell kn 2), (b_ kp 0 np).trans (blk_cell kp 0), (b_ kp 1 np).trans (blk_cell kp 1), (x_ _ hblk).trans y0, (x_ ⟨ad.block, ad.off + 1, none⟩ hblk).trans y1, (x_ ⟨ad.block, ad.off + 2, none⟩ hblk).trans y2, (x_ ⟨ad.block, ad.off + 3, none⟩ hblk).trans y3⟩
  have HB := Aside0.mk hb
  have HE := Aside0.mk he
  have hWW := KB.refl (fun j => j = mb) W
  have HEW := Aside0.mk (he.below_ hb)
  have MW := Aside0.mk (he.memo.of_block (hb.block _ hmb))
  clear hmb
  have hcall := fun (W' : World) (hW : Below W.heap.size W W') => hn (rd_T31 ks 0) A3 c3 A4 c4 f g m W' ((he.below_ hb).below_ hW) g3 l3 g4 l4 hf hL hm
  have hgk := fun (W' : World) => mask_Month_Not.calls m g r W' hr
  have HN := Aside0.mk hn
  clear hb kn kp he h2 hr hm y0 y1 y2 y3 g3 g4 hn
  have hl2 : decide ((0 : Int) < (ks.length : Int)) = true := decide_eq_true (by omega)
  go_region_held3 (fun W' => W'.cell? ⟨w.heap.size, 2, none⟩ = some (.slice (some ad) ks.length c2) ∧ W'.cell? ⟨w.heap.size + 1, 0, none⟩ = some (.int .i64 f) ∧ W'.cell? ⟨w.heap.size + 1, 1, none⟩ = some (.int .i64 g) ∧ W'.cell? ad = some (.int .i64 (rd_T31 ks 0).f0) ∧ W'.cell? ⟨ad.block, ad.off + 1, none⟩ = some (.slice A3 (rd_T31 ks 0).f1.length c3) ∧ W'.cell? ⟨ad.block, ad.off + 2, none⟩ = some (.slice A4 (rd_T31 ks 0).f2.length c4) ∧ W'.cell? ⟨ad.block, ad.off + 3, none⟩ = some (.string (rd_T31 ks 0).f3))
    (first | exact HS.out _ kb2 | exact HS.out _ kb2.drew | exact HS.out _ kb1 | exact HS.out _ kb1.drew | exact HS.out _ hWW | exact HS.out _ hWW.drew)
    (first | (go_at_call 25; refine (hcall _ (by first | exact Below.refl _ _ | exact below_drew1 (Below.refl _ _))).mono ?_; rintro e w1 ⟨rfl, kk1, mm1⟩; have kb1 := (show KB (fun j => j = mb) W w1 from (by first | exact hWW.trans kk1 (fun j h => .inl h) | exact hWW.drew.trans kk1 (fun j h => .inl h))); clear kk1) | (go_at_call 43; refine (hgk _).mono ?_; rintro e w2 ⟨rfl, hb2⟩; have kb2 := (show KB (fun j => j = mb) W w2 from (by first | exact kb1.go hb2 | exact kb1.drew.go hb2)); have mm2 := (show Memo l L F mb w2 from (by first | exact mm1.go hb2 | exact (show Memo l L F mb w1.drew from mm1).go hb2)); clear hb2))
  go_wp2
  go_ret
  exact ⟨rfl, (KB.of_below HB.out).trans kb2 (fun j h => .inl h), mm2⟩
set_option maxHeartbeats 8000000 in
set_option maxRecDepth 100000 in
theorem month.c2 (l : List S48) (A0 : Option Addr) (c0 : Nat) (L : Int → Int) (F : List Int) (bb mb : Nat) (met : Int) (w0 : World) (k : Nat) (ns : List Int) (ks : List S31) (nm : ByteArray) (A1 : Option Addr) (c1 : Nat) (A2 : Option Addr) (c2 : Nat) (f g r : Int) (w : World)
    (he : Env l A0 c0 L F bb mb met w0 w) (h1 : (Kd.int .i64).C w0 A1 ns.length ns) (hr : month.l1 k ns 0 f g 0 = some r) :
    Calls Tryd.prog 25 #[.pointer (some ⟨bb, 0, none⟩), .agg #[.int .i64 2, .slice A1 ns.length c1, .slice A2 ks.length c2, .string nm], .agg #[.int .i64 f, .int .i64 g]] w fun e w' => e = .returned (.int .u32 r) ∧ KB (fun j => j = mb) w w' ∧ Memo l L F mb w' := by
  go_enter Tryd.func25, Tryd.ntmps25
  go_upto_region 7 with (fail)
  obtain ⟨hb, kn, kp⟩ := node_base w (.cells #[.int .i64 2, .slice A1 ns.length c1, .slice A2 ks.length c2, .string nm] 31 (0, 0)) (.cells #[.int .i64 f, .int .i64 g] 64 (0, 0))
  obtain ⟨W, hW⟩ : ∃ W, W = (w.alloc (.cells #[.int .i64 2, .slice A1 ns.length c1, .slice A2 ks.length c2, .string nm] 31 (0, 0))).alloc (.cells #[.int .i64 f, .int .i64 g] 64 (0, 0)) := ⟨_, rfl⟩
  rw [← hW] at hb kn kp ⊢
  clear hW
  have hmb := he.mlt
  have HS : Aside0 (∀ W' : World, KB (fun j => j = mb) W W' → W'.cell? ⟨w.heap.size, 1, none⟩ = some (.slice A1 ns.length c1) ∧ W'.cell? ⟨w.heap.size + 1, 0, none⟩ = some (.int .i64 f) ∧ W'.cell? ⟨w.heap.size + 1, 1, none⟩ = some (.int .i64 g)) := by
    constructor
    intro W' hW'
    have nn : w.heap.size ≠ mb := by omega
    have np : w.heap.size + 1 ≠ mb := by omega
    have b_ : ∀ {q : Nat} {o : Obj} (hq : W.heap[q]? = some o) (j : Nat), q ≠ mb → W'.cell? ⟨q, j, none⟩ = W.cell? ⟨q, j, none⟩ := fun {q o} hq j hn => World.cell?_of_block (w := W) (hW'.block q (blk_lt hq) hn)
    have x_ : ∀ p : Addr, p.block < w0.heap.size → W'.cell? p = w0.cell? p := fun p hp => ((hW'.below (he.below.trans (hb.mono he.below.size)) (fun j e => e ▸ he.hmb)).cell hp)
    exact ⟨(b_ kn 1 nn).trans (blk_cell kn 1), (b_ kp 0 np).trans (blk_cell kp 0), (b_ kp 1 np).trans (blk_cell kp 1)⟩
  have HB := Aside0.mk hb
  have HE := Aside0.mk he
  have hWW := KB.refl (fun j => j = mb) W
  have HEW := Aside0.mk (he.below_ hb)
  have MW := Aside0.mk (he.memo.of_block (hb.block _ hmb))
  clear hmb
  have H1 := Aside0.mk h1
  have HR := Aside0.mk hr
  obtain ⟨p1, p2, p3⟩ := HS.out W hWW
  clear hb kn kp he h1 hr
  go_wp2
  go_loopg [7, 47] k (fun kq v7 v47 w' => ∃ (m x : Int), v7 = .int .u32 m ∧ v47 = .int .i64 x ∧ Aside0 (month.l1 kq ns x f g m = some r) ∧ Aside0 (KB (fun j => j = mb) W w') ∧ Aside0 (Memo l L F mb w'))
  case atStart => exact ⟨0, 0, rfl, rfl, HR, ⟨hWW⟩, MW⟩
  case round =>
    clear HR
    obtain ⟨m, x, rfl, rfl, HA, HK, HM⟩ := hrel
    cases gk with
    | zero => exact absurd HA.out (by simp [month.l1])
    | succ k1 =>
      have H := HA.out
      clear HA
      rw [month.l1.eq_2] at H
      by_cases q1 : x < (ns.length : Int)
      · rw [if_pos q1] at H
        by_cases q2 : 0 ≤ x
        · rw [if_pos q2] at H
          obtain ⟨b, hbit, H⟩ := Option.bind_eq_some_iff.mp H
          obtain ⟨ad, e, hx⟩ := Kd.at_int H1.out x q2 q1
          cases e
          have hblk := World.block_lt_of_cell? w0 _ hx
          have hx' := ((HK.out.below HEW.out.below (fun j e => e ▸ HEW.out.hmb)).cell hblk).trans hx
          clear hx p1 p2 p3
          obtain ⟨p1, p2, p3⟩ := HS.out wr HK.out
          have q1b : decide (x < (ns.length : Int)) = true := decide_eq_true q1
          have HN := Aside0.mk H
          have hcall := fun (W' : World) => cal_span_bit.calls f g (rd ns x) b W' hbit
          clear H hbit
          go_wp2_with (go_at_call 26; refine (hcall _).mono ?_; rintro e w1 ⟨rfl, hb1⟩)
          go_roundg k1
          case measure => exact Nat.lt_succ_self _
          case rel => exact ⟨_, _, rfl, rfl, HN, ⟨HK.out.go hb1⟩, ⟨HM.out.go hb1⟩⟩
        · rw [if_neg q2] at H
          cases H
      · rw [if_neg q1] at H
        obtain rfl := Option.some.inj H
        have q1b : decide (x < (ns.length : Int)) = false := decide_eq_false q1
        clear H
        go_wp2
        go_ret
        exact ⟨rfl, (KB.of_below HB.out).trans HK.out (fun j h => .inl h), HM.out⟩
set_option maxHeartbeats 8000000 in
set_option maxRecDepth 100000 in
theorem month.c7 (l : List S48) (A0 : Option Addr) (c0 : Nat) (L : Int → Int) (F : List Int) (bb mb : Nat) (met : Int) (w0 : World) (k : Nat) (ns : List Int) (ks : List S31) (nm : ByteArray) (A1 : Option Addr) (c1 : Nat) (A2 : Option Addr) (c2 : Nat) (f g r : Int) (w : World)
    (he : Env l A0 c0 L F bb mb met w0 w) (h2 : k31.C w0 A2 ks.length ks) (h2c : ks.length ≤ c2) (hf : f ∈ F) (hL : L f = g) (hn : ∀ k' < k, MonthOK l A0 c0 L F bb mb met w0 k') (m0 : Int) (hm0 : mask_All.f g = some m0) (hr : month.l2 k l ks 0 f g m0 = some r) :
    Calls Tryd.prog 25 #[.pointer (some ⟨bb, 0, none⟩), .agg #[.int .i64 7, .slice A1 ns.length c1, .slice A2 ks.length c2, .string nm], .agg #[.int .i64 f, .int .i64 g]] w fun e w' => e = .returned (.int .u32 r) ∧ KB (fun j => j = mb) w w' ∧ Memo l L F mb w' := by
  go_enter Tryd.func25, Tryd.ntmps25
  go_upto_region 26 with (fail)
  obtain ⟨hb, kn, kp⟩ := node_base w (.cells #[.int .i64 7, .slice A1 ns.length c1, .slice A2 ks.length c2, .string nm] 31 (0, 0)) (.cells #[.int .i64 f, .int .i64 g] 64 (0, 0))
  obtain ⟨W, hW⟩ : ∃ W, W = (w.alloc (.cells #[.int .i64 7, .slice A1 ns.length c1, .slice A2 ks.length c2, .string nm] 31 (0, 0))).alloc (.cells #[.int .i64 f, .int .i64 g] 64 (0, 0)) := ⟨_, rfl⟩
  rw [← hW] at hb kn kp ⊢
  clear hW
  have hmb := he.mlt
  have HS : Aside0 (∀ W' : World, KB (fun j => j = mb) W W' → W'.cell? ⟨w.heap.size, 2, none⟩ = some (.slice A2 ks.length c2) ∧ W'.cell? ⟨w.heap.size + 1, 0, none⟩ = some (.int .i64 f) ∧ W'.cell? ⟨w.heap.size + 1, 1, none⟩ = some (.int .i64 g)) := by
    constructor
    intro W' hW'
    have nn : w.heap.size ≠ mb := by omega
    have np : w.heap.size + 1 ≠ mb := by omega
    have b_ : ∀ {q : Nat} {o : Obj} (hq : W.heap[q]? = some o) (j : Nat), q ≠ mb → W'.cell? ⟨q, j, none⟩ = W.cell? ⟨q, j, none⟩ := fun {q o} hq j hn => World.cell?_of_block (w := W) (hW'.block q (blk_lt hq) hn)
    have x_ : ∀ p : Addr, p.block < w0.heap.size → W'.cell? p = w0.cell? p := fun p hp => ((hW'.below (he.below.trans (hb.mono he.below.size)) (fun j e => e ▸ he.hmb)).cell hp)
    exact ⟨(b_ kn 2 nn).trans (blk_cell kn 2), (b_ kp 0 np).trans (blk_cell kp 0), (b_ kp 1 np).trans (blk_cell kp 1)⟩
  have HB := Aside0.mk hb
  have HE := Aside0.mk he
  have hWW := KB.refl (fun j => j = mb) W
  have HEW := Aside0.mk (he.below_ hb)
  have MW := Aside0.mk (he.memo.of_block (hb.block _ hmb))
  clear hmb
  have H2 := Aside0.mk h2
  have HR := Aside0.mk hr
  have HIH := Aside0.mk hn
  obtain ⟨p1, p2, p3⟩ := HS.out W hWW
  clear hb kn kp he h2 hr hn
  have hall := fun (W' : World) => mask_All.calls g m0 W' hm0
  clear hm0
  go_wp2_with (go_at_call 42; refine (hall _).mono ?_; rintro e w1 ⟨rfl, hb1⟩; have kb1 := (show KB (fun j => j = mb) W w1 from (by first | exact hWW.go hb1 | exact hWW.drew.go hb1)); have mm1 := (show Memo l L F mb w1 from (by first | exact MW.out.go hb1 | exact (show Memo l L F mb W.drew from MW.out).go hb1)); clear hb1; clear p1 p2 p3; obtain ⟨p1, p2, p3⟩ := HS.out w1 kb1; have KB1 := Aside0.mk kb1; have MM1 := Aside0.mk mm1; clear kb1 mm1)
  go_loopg [7, 134] k (fun kq v7 v134 w' => ∃ (m x : Int), v7 = .int .u32 m ∧ v134 = .int .i64 x ∧ Aside0 (month.l2 kq l ks x f g m = some r) ∧ Aside0 (kq ≤ k) ∧ Aside0 (KB (fun j => j = mb) W w') ∧ Aside0 (Memo l L F mb w'))
  case atStart => exact ⟨m0, 0, rfl, rfl, HR, ⟨Nat.le_refl _⟩, KB1, MM1⟩
  case round =>
    clear HR
    obtain ⟨m, x, rfl, rfl, HA, HKq, HK, HM⟩ := hrel
    cases gk with
    | zero => exact absurd HA.out (by simp [month.l2])
    | succ k1 =>
      have H := HA.out
      clear HA
      rw [month.l2.eq_2] at H
      by_cases q1 : x < (ks.length : Int)
      · rw [if_pos q1] at H
        by_cases q2 : 0 ≤ x
        · rw [if_pos q2] at H
          obtain ⟨b, hbit, H⟩ := Option.bind_eq_some_iff.mp H
          obtain ⟨ad, A3, c3, A4, c4, e, y0, y1, y2, y3, l3, g3, l4, g4⟩ := at_T31 H2.out x q2 q1
          cases e
          have hblk := World.block_lt_of_cell? w0 _ y0
          have HBw := HK.out.below HEW.out.below (fun j e => e ▸ HEW.out.hmb)
          replace y0 := (HBw.cell hblk).trans y0
          replace y1 := (HBw.cell (p := ⟨(ad.add (x.toNat * 4)).block, (ad.add (x.toNat * 4)).off + 1, none⟩) hblk).trans y1
          replace y2 := (HBw.cell (p := ⟨(ad.add (x.toNat * 4)).block, (ad.add (x.toNat * 4)).off + 2, none⟩) hblk).trans y2
          replace y3 := (HBw.cell (p := ⟨(ad.add (x.toNat * 4)).block, (ad.add (x.toNat * 4)).off + 3, none⟩) hblk).trans y3
          clear p1 p2 p3 HBw
          obtain ⟨p1, p2, p3⟩ := HS.out wr HK.out
          have hltn := World.block_lt_of_cell? wr _ p2
          have q1b : decide (x < (ks.length : Int)) = true := decide_eq_true q1
          have HN := Aside0.mk H
          have hcall := fun (W' : World) (hW : Below wr.heap.size wr W') => HIH.out k1 (by have := HKq.out; omega) (rd_T31 ks x) A3 c3 A4 c4 f g b W' ((HEW.out.turn HK.out HM.out).below_ hW) g3 l3 g4 l4 hf hL hbit
          clear H hbit g3 g4
          go_wp2_with (go_at_call 25; refine (hcall _ (by exact below_alloc (Below.refl _ _) _)).mono ?_; rintro e w1 ⟨rfl, hk1, hm1⟩)
          go_roundg k1
          case measure => exact Nat.lt_succ_self _
          case rel => exact ⟨_, _, rfl, rfl, HN, ⟨by have := HKq.out; omega⟩, ⟨(HK.out.alloc _).trans hk1 (fun j h => .inl h)⟩, ⟨hm1⟩⟩
        · rw [if_neg q2] at H
          cases H
      · rw [if_neg q1] at H
        obtain rfl := Option.some.inj H
        have q1b : decide (x < (ks.length : Int)) = false := decide_eq_false q1
        clear H
        go_wp2
        go_ret
        exact ⟨rfl, (KB.of_below HB.out).trans HK.out (fun j h => .inl h), HM.out⟩
set_option maxHeartbeats 8000000 in
set_option maxRecDepth 100000 in
theorem month.c8 (l : List S48) (A0 : Option Addr) (c0 : Nat) (L : Int → Int) (F : List Int) (bb mb : Nat) (met : Int) (w0 : World) (k : Nat) (ns : List Int) (ks : List S31) (nm : ByteArray) (A1 : Option Addr) (c1 : Nat) (A2 : Option Addr) (c2 : Nat) (f g r : Int) (w : World)
    (he : Env l A0 c0 L F bb mb met w0 w) (h2 : k31.C w0 A2 ks.length ks) (h2c : ks.length ≤ c2) (hf : f ∈ F) (hL : L f = g) (hn : ∀ k' < k, MonthOK l A0 c0 L F bb mb met w0 k') (hr : month.l3 k l ks 0 f g 0 = some r) :
    Calls Tryd.prog 25 #[.pointer (some ⟨bb, 0, none⟩), .agg #[.int .i64 8, .slice A1 ns.length c1, .slice A2 ks.length c2, .string nm], .agg #[.int .i64 f, .int .i64 g]] w fun e w' => e = .returned (.int .u32 r) ∧ KB (fun j => j = mb) w w' ∧ Memo l L F mb w' := by
  go_enter Tryd.func25, Tryd.ntmps25
  go_upto_region 33 with (fail)
  obtain ⟨hb, kn, kp⟩ := node_base w (.cells #[.int .i64 8, .slice A1 ns.length c1, .slice A2 ks.length c2, .string nm] 31 (0, 0)) (.cells #[.int .i64 f, .int .i64 g] 64 (0, 0))
  obtain ⟨W, hW⟩ : ∃ W, W = (w.alloc (.cells #[.int .i64 8, .slice A1 ns.length c1, .slice A2 ks.length c2, .string nm] 31 (0, 0))).alloc (.cells #[.int .i64 f, .int .i64 g] 64 (0, 0)) := ⟨_, rfl⟩
  rw [← hW] at hb kn kp ⊢
  clear hW
  have hmb := he.mlt
  have HS : Aside0 (∀ W' : World, KB (fun j => j = mb) W W' → W'.cell? ⟨w.heap.size, 2, none⟩ = some (.slice A2 ks.length c2) ∧ W'.cell? ⟨w.heap.size + 1, 0, none⟩ = some (.int .i64 f) ∧ W'.cell? ⟨w.heap.size + 1, 1, none⟩ = some (.int .i64 g)) := by
    constructor
    intro W' hW'
    have nn : w.heap.size ≠ mb := by omega
    have np : w.heap.size + 1 ≠ mb := by omega
    have b_ : ∀ {q : Nat} {o : Obj} (hq : W.heap[q]? = some o) (j : Nat), q ≠ mb → W'.cell? ⟨q, j, none⟩ = W.cell? ⟨q, j, none⟩ := fun {q o} hq j hn => World.cell?_of_block (w := W) (hW'.block q (blk_lt hq) hn)
    have x_ : ∀ p : Addr, p.block < w0.heap.size → W'.cell? p = w0.cell? p := fun p hp => ((hW'.below (he.below.trans (hb.mono he.below.size)) (fun j e => e ▸ he.hmb)).cell hp)
    exact ⟨(b_ kn 2 nn).trans (blk_cell kn 2), (b_ kp 0 np).trans (blk_cell kp 0), (b_ kp 1 np).trans (blk_cell kp 1)⟩
  have HB := Aside0.mk hb
  have HE := Aside0.mk he
  have hWW := KB.refl (fun j => j = mb) W
  have HEW := Aside0.mk (he.below_ hb)
  have MW := Aside0.mk (he.memo.of_block (hb.block _ hmb))
  clear hmb
  have H2 := Aside0.mk h2
  have HR := Aside0.mk hr
  have HIH := Aside0.mk hn
  obtain ⟨p1, p2, p3⟩ := HS.out W hWW
  clear hb kn kp he h2 hr hn
  go_wp2
  go_loopg [7, 150] k (fun kq v7 v150 w' => ∃ (m x : Int), v7 = .int .u32 m ∧ v150 = .int .i64 x ∧ Aside0 (month.l3 kq l ks x f g m = some r) ∧ Aside0 (kq ≤ k) ∧ Aside0 (KB (fun j => j = mb) W w') ∧ Aside0 (Memo l L F mb w'))
  case atStart => exact ⟨0, 0, rfl, rfl, HR, ⟨Nat.le_refl _⟩, ⟨hWW⟩, MW⟩
  case round =>
    clear HR
    obtain ⟨m, x, rfl, rfl, HA, HKq, HK, HM⟩ := hrel
    cases gk with
    | zero => exact absurd HA.out (by simp [month.l3])
    | succ k1 =>
      have H := HA.out
      clear HA
      rw [month.l3.eq_2] at H
      by_cases q1 : x < (ks.length : Int)
      · rw [if_pos q1] at H
        by_cases q2 : 0 ≤ x
        · rw [if_pos q2] at H
          obtain ⟨b, hbit, H⟩ := Option.bind_eq_some_iff.mp H
          obtain ⟨ad, A3, c3, A4, c4, e, y0, y1, y2, y3, l3, g3, l4, g4⟩ := at_T31 H2.out x q2 q1
          cases e
          have hblk := World.block_lt_of_cell? w0 _ y0
          have HBw := HK.out.below HEW.out.below (fun j e => e ▸ HEW.out.hmb)
          replace y0 := (HBw.cell hblk).trans y0
          replace y1 := (HBw.cell (p := ⟨(ad.add (x.toNat * 4)).block, (ad.add (x.toNat * 4)).off + 1, none⟩) hblk).trans y1
          replace y2 := (HBw.cell (p := ⟨(ad.add (x.toNat * 4)).block, (ad.add (x.toNat * 4)).off + 2, none⟩) hblk).trans y2
          replace y3 := (HBw.cell (p := ⟨(ad.add (x.toNat * 4)).block, (ad.add (x.toNat * 4)).off + 3, none⟩) hblk).trans y3
          clear p1 p2 p3 HBw
          obtain ⟨p1, p2, p3⟩ := HS.out wr HK.out
          have hltn := World.block_lt_of_cell? wr _ p2
          have q1b : decide (x < (ks.length : Int)) = true := decide_eq_true q1
          have HN := Aside0.mk H
          have hcall := fun (W' : World) (hW : Below wr.heap.size wr W') => HIH.out k1 (by have := HKq.out; omega) (rd_T31 ks x) A3 c3 A4 c4 f g b W' ((HEW.out.turn HK.out HM.out).below_ hW) g3 l3 g4 l4 hf hL hbit
          clear H hbit g3 g4
          go_wp2_with (go_at_call 25; refine (hcall _ (by exact below_alloc (Below.refl _ _) _)).mono ?_; rintro e w1 ⟨rfl, hk1, hm1⟩)
          go_roundg k1
          case measure => exact Nat.lt_succ_self _
          case rel => exact ⟨_, _, rfl, rfl, HN, ⟨by have := HKq.out; omega⟩, ⟨(HK.out.alloc _).trans hk1 (fun j h => .inl h)⟩, ⟨hm1⟩⟩
        · rw [if_neg q2] at H
          cases H
      · rw [if_neg q1] at H
        obtain rfl := Option.some.inj H
        have q1b : decide (x < (ks.length : Int)) = false := decide_eq_false q1
        clear H
        go_wp2
        go_ret
        exact ⟨rfl, (KB.of_below HB.out).trans HK.out (fun j h => .inl h), HM.out⟩
set_option maxHeartbeats 8000000 in
set_option maxRecDepth 100000 in
theorem month.c0 (l : List S48) (A0 : Option Addr) (c0 : Nat) (L : Int → Int) (F : List Int) (bb mb : Nat) (met : Int) (w0 : World) (op : Int) (ns : List Int) (ks : List S31) (nm : ByteArray) (A1 : Option Addr) (c1 : Nat) (A2 : Option Addr) (c2 : Nat) (f g : Int) (w : World)
    (he : Env l A0 c0 L F bb mb met w0 w) (h1 : op ≠ 1) (h2 : op ≠ 2) (h3 : op ≠ 3) (h4 : op ≠ 4) (h5 : op ≠ 5) (h6 : op ≠ 6) (h7 : op ≠ 7) (h8 : op ≠ 8) (h9 : op ≠ 9) (h10 : op ≠ 10) :
    Calls Tryd.prog 25 #[.pointer (some ⟨bb, 0, none⟩), .agg #[.int .i64 op, .slice A1 ns.length c1, .slice A2 ks.length c2, .string nm], .agg #[.int .i64 f, .int .i64 g]] w fun e w' => e = .returned (.int .u32 0) ∧ KB (fun j => j = mb) w w' ∧ Memo l L F mb w' := by
  have e1 : (op == 1) = false := beq_eq_false_iff_ne.mpr h1
  have e2 : (op == 2) = false := beq_eq_false_iff_ne.mpr h2
  have e3 : (op == 3) = false := beq_eq_false_iff_ne.mpr h3
  have e4 : (op == 4) = false := beq_eq_false_iff_ne.mpr h4
  have e5 : (op == 5) = false := beq_eq_false_iff_ne.mpr h5
  have e6 : (op == 6) = false := beq_eq_false_iff_ne.mpr h6
  have e7 : (op == 7) = false := beq_eq_false_iff_ne.mpr h7
  have e8 : (op == 8) = false := beq_eq_false_iff_ne.mpr h8
  have e9 : (op == 9) = false := beq_eq_false_iff_ne.mpr h9
  have e10 : (op == 10) = false := beq_eq_false_iff_ne.mpr h10
  clear h1 h2 h3 h4 h5 h6 h7 h8 h9 h10
  go_enter Tryd.func25, Tryd.ntmps25
  go_wp2
  go_ret
  exact ⟨rfl, he.fin (below_alloc (below_alloc (Below.refl _ _) _) _)⟩
theorem named.of (l : List S48) (A0 : Option Addr) (c0 : Nat) (L : Int → Int) (F : List Int) (bb mb : Nat) (met : Int) (w0 : World) : ∀ k, (∀ j < k, MonthOK l A0 c0 L F bb mb met w0 j) → NamedOK l A0 c0 L F bb mb met w0 k
  | 0, _ => fun name f g r w he hf hL h => by simp [named.f] at h
  | k + 1, ih => named.calls l A0 c0 L F bb mb met w0 k (ih k (Nat.lt_succ_self _))
theorem month.calls (l : List S48) (A0 : Option Addr) (c0 : Nat) (L : Int → Int) (F : List Int) (bb mb : Nat) (met : Int) (w0 : World) (k : Nat) : MonthOK l A0 c0 L F bb mb met w0 k := by
  induction k using Nat.strongRecOn with
  | _ k ihs =>
  cases k with
  | zero => intro n A1 c1 A2 c2 f g r w he h1 h1c h2 h2c hf hL h; simp [month.f] at h
  | succ k =>
  have ihm : ∀ j < k, MonthOK l A0 c0 L F bb mb met w0 j := fun j hj => ihs j (by omega)
  have ihk := ihs k (Nat.lt_succ_self _)
  have ihn : NamedOK l A0 c0 L F bb mb met w0 k := named.of l A0 c0 L F bb mb met w0 k ihm
  intro n A1 c1 A2 c2 f g r w he h1 h1c h2 h2c hf hL h
  obtain ⟨op, ns, ks, nm⟩ := n
  rw [month.f.eq_2] at h
  simp only at h h1 h1c h2 h2c ⊢
  by_cases q1 : op = 1
  · subst q1
    rw [if_pos rfl] at h
    by_cases hl : 0 < ns.length
    · rw [if_pos hl] at h
      obtain ⟨d, hd, h⟩ := Option.bind_eq_some_iff.mp h
      exact month.c1 l A0 c0 L F bb mb met w0 k ns ks nm A1 c1 A2 c2 f g r w he h1 hl d hd h
    · rw [if_neg hl] at h; cases h
  rw [if_neg q1] at h
  by_cases q2 : op = 2
  · subst q2
    rw [if_pos rfl] at h
    exact month.c2 l A0 c0 L F bb mb met w0 k ns ks nm A1 c1 A2 c2 f g r w he h1 h
  rw [if_neg q2] at h
  by_cases q3 : op = 3
  · subst q3
    rw [if_pos rfl] at h
    exact month.c3 l A0 c0 L F bb mb met w0 k ns ks nm A1 c1 A2 c2 f g r w he h1 h1c h
  rw [if_neg q3] at h
  by_cases q4 : op = 4
  · subst q4
    rw [if_pos rfl] at h
    by_cases hl : 1 < ns.length
    · rw [if_pos hl] at h
      obtain ⟨d, hd, h⟩ := Option.bind_eq_some_iff.mp h
      obtain ⟨q, hq, h⟩ := Option.bind_eq_some_iff.mp h
      exact month.c4 l A0 c0 L F bb mb met w0 k ns ks nm A1 c1 A2 c2 f g r w he h1 hl d hd q hq h
    · rw [if_neg hl] at h; cases h
  rw [if_neg q4] at h
  by_cases q5 : op = 5
  · subst q5
    rw [if_pos rfl] at h
    by_cases hl : 0 < ns.length
    · rw [if_pos hl] at h
      obtain ⟨m, hm, h⟩ := Option.bind_eq_some_iff.mp h
      obtain ⟨d, hd, h⟩ := Option.bind_eq_some_iff.mp h
      exact month.c5 l A0 c0 L F bb mb met w0 k ns ks nm A1 c1 A2 c2 f g r w he h1 hl hf hL ihn m d hm hd h
    · rw [if_neg hl] at h; cases h
  rw [if_neg q5] at h
  by_cases q6 : op = 6
  · subst q6
    rw [if_pos rfl] at h
    by_cases hl : 1 < ns.length
    · rw [if_pos hl] at h
      exact month.c6 l A0 c0 L F bb mb met w0 k ns ks nm A1 c1 A2 c2 f g r w he h1 hl h
    · rw [if_neg hl] at h; cases h
  rw [if_neg q6] at h
  by_cases q7 : op = 7
  · subst q7
    rw [if_pos rfl] at h
    obtain ⟨m, hm, h⟩ := Option.bind_eq_some_iff.mp h
    exact month.c7 l A0 c0 L F bb mb met w0 k ns ks nm A1 c1 A2 c2 f g r w he h2 h2c hf hL ihm m hm h
  rw [if_neg q7] at h
  by_cases q8 : op = 8
  · subst q8
    rw [if_pos rfl] at h
    exact month.c8 l A0 c0 L F bb mb met w0 k ns ks nm A1 c1 A2 c2 f g r w he h2 h2c hf hL ihm h
  rw [if_neg q8] at h
  by_cases q9 : op = 9
  · subst q9
    rw [if_pos rfl] at h
    by_cases hl : 0 < ks.length
    · rw [if_pos hl] at h
      obtain ⟨m, hm, h⟩ := Option.bind_eq_some_iff.mp h
      exact month.c9 l A0 c0 L F bb mb met w0 k ns ks nm A1 c1 A2 c2 f g r w he h2 h2c hl hf hL ihk m hm h
    · rw [if_neg hl] at h; cases h
  rw [if_neg q9] at h
  by_cases q10 : op = 10
  · subst q10
    rw [if_pos rfl] at h
    exact month.c10 l A0 c0 L F bb mb met w0 k ns ks nm A1 c1 A2 c2 f g r w he hf hL ihn h
  rw [if_neg q10] at h
  obtain rfl := Option.some.inj h
  exact month.c0 l A0 c0 L F bb mb met w0 op ns ks nm A1 c1 A2 c2 f g w he q1 q2 q3 q4 q5 q6 q7 q8 q9 q10
theorem cal_book_walk.mono_l : ∀ k, (∀ l met n refs work, LeO (cal_book_walk.f k l met n refs work) (cal_book_walk.f (k + 1) l met n refs work)) ∧ (∀ l met ks i refs work, LeO (cal_book_walk.l0 k l met ks i refs work) (cal_book_walk.l0 (k + 1) l met ks i refs work))
  | 0 => ⟨fun _ _ _ _ _ r h => by simp [cal_book_walk.f] at h, fun _ _ _ _ _ _ r h => by simp [cal_book_walk.l0] at h⟩
  | k + 1 => by
    obtain ⟨ih0, ih1⟩ := cal_book_walk.mono_l k
    refine ⟨?_, ?_⟩
    · intro l met n refs work
      rw [cal_book_walk.f.eq_2, cal_book_walk.f.eq_2]
      repeat' first
      | (with_reducible exact ih0 _ _ _ _ _)
      | (with_reducible exact ih1 _ _ _ _ _ _)
      | (with_reducible exact LeO.refl _)
      | (with_reducible exact LeO.none _)
      | (with_reducible refine LeO.ite ?_ ?_)
      | (with_reducible refine LeO.bind ?_ (fun _ => ?_))
    · intro l met ks i refs work
      rw [cal_book_walk.l0.eq_2, cal_book_walk.l0.eq_2]
      repeat' first
      | (with_reducible exact ih0 _ _ _ _ _)
      | (with_reducible exact ih1 _ _ _ _ _ _)
      | (with_reducible exact LeO.refl _)
      | (with_reducible exact LeO.none _)
      | (with_reducible refine LeO.ite ?_ ?_)
      | (with_reducible refine LeO.bind ?_ (fun _ => ?_))
theorem cal_book_walk.mono : ∀ l met n refs work k, LeO (cal_book_walk.f k l met n refs work) (cal_book_walk.f (k + 1) l met n refs work) := fun l met n refs work k => (cal_book_walk.mono_l k).1 l met n refs work
theorem cal_open.mono_k (k : Nat) (l : List S48) (hk : cal_open.rok k l = true) : cal_open.rok (k + 1) l = true ∧ l.any (cal_open.rp (k + 1)) = l.any (cal_open.rp k) := by
  unfold cal_open.rok at *
  have h1 : ∀ x ∈ l, cal_Right.f (k + 1) x.f1.f0 x.f1.f1 x.f1.f2 x.f1.f3 = cal_Right.f k x.f1.f0 x.f1.f1 x.f1.f2 x.f1.f3 := by
    intro x hx
    have := List.all_eq_true.mp hk x hx
    obtain ⟨r, hr⟩ := Option.isSome_iff_exists.mp this
    rw [hr]
    exact cal_Right.mono _ _ _ _ k _ hr
  constructor
  · rw [List.all_eq_true] at *
    intro x hx
    rw [h1 x hx]
    exact hk x hx
  · rw [Bool.eq_iff_iff, List.any_eq_true, List.any_eq_true]
    constructor
    · rintro ⟨x, hx, hp⟩
      exact ⟨x, hx, by unfold cal_open.rp at *; rwa [h1 x hx] at hp⟩
    · rintro ⟨x, hx, hp⟩
      exact ⟨x, hx, by unfold cal_open.rp at *; rwa [h1 x hx]⟩
theorem cal_open.mono_l : ∀ (j k : Nat) (l : List S48) (day : Int) (ks : List S31) (i : Int), LeO (cal_open.l0 k j l day ks i) (cal_open.l0 (k + 1) (j + 1) l day ks i)
  | 0, _, _, _, _, _ => fun r h => by simp [cal_open.l0] at h
  | j + 1, k, l, day, ks, i => by
    rw [cal_open.l0.eq_2, cal_open.l0.eq_2]
    refine LeO.ite (LeO.ite (LeO.ite (LeO.refl _) ?_) (LeO.none _)) (LeO.refl _)
    by_cases hk : cal_open.rok k l = true
    · obtain ⟨h1, h2⟩ := cal_open.mono_k k l hk
      rw [if_pos hk, if_pos h1, h2]
      refine LeO.ite (LeO.refl _) (LeO.bind (cal_Right.mono _ _ _ _ k) (fun b => LeO.ite (LeO.bind (LeO.refl _) (fun d => LeO.ite (LeO.bind (cal_book_walk.mono _ _ _ _ _ k) (fun t => LeO.ite (cal_open.mono_l j k l day ks _) (LeO.refl _))) (LeO.refl _))) (LeO.refl _)))
    · rw [if_neg hk]
      exact LeO.none _
open Classical in
/-- How long the month is that begins at a day. -/
noncomputable def LL (f : Int) : Int := if h : ∃ g k, cal_spanOf.f k f = some (f, g) then Classical.choose h else 0
theorem LL_of {k : Nat} {f g : Int} (h : cal_spanOf.f k f = some (f, g)) : LL f = g := by
  have hx : ∃ g k, cal_spanOf.f k f = some (f, g) := ⟨g, k, h⟩
  unfold LL
  rw [dif_pos hx]
  obtain ⟨k2, h2⟩ := Classical.choose_spec hx
  have u1 := at_rounds (g := fun k => cal_spanOf.f k f) (fun k => cal_spanOf.mono f k) (Nat.le_max_left k k2) h
  have u2 := at_rounds (g := fun k => cal_spanOf.f k f) (fun k => cal_spanOf.mono f k) (Nat.le_max_right k k2) h2
  have := Option.some.inj (u1.symm.trans u2)
  exact (Prod.mk.inj this).2.symm
def FF : List Int := (List.range 3652060).map Int.ofNat
theorem FF_mem {f : Int} (h0 : 0 ≤ f) (h1 : f ≤ 3652059) : f ∈ FF := List.mem_map.mpr ⟨f.toNat, List.mem_range.mpr (by omega), Int.toNat_of_nonneg h0⟩
theorem FF_len : FF.length = 3652060 := by rw [FF, List.length_map, List.length_range]
def in.f (k : Nat) (l : List S48) (n : S31) (day : Int) : Option Bool :=
  (cal_spanOf.f k day).bind fun s => if 0 ≤ s.1 then if s.1 ≤ 3652059 then (cal_spanOf.f k s.1).bind fun t => if t = s then (month.f k l n s.1 s.2).bind fun m => (cal_span_bit.f s.1 s.2 day).bind fun b => some (Go.bits .and .u32 m b != 0) else none else none else none
theorem in.mono : ∀ l n day k, LeO (in.f k l n day) (in.f (k + 1) l n day) := by
  intro l n day k
  unfold in.f
  repeat' first
  | (with_reducible exact cal_spanOf.mono _ _)
  | (with_reducible exact (month.mono_l _).1 _ _ _ _)
  | (with_reducible exact LeO.refl _)
  | (with_reducible exact LeO.none _)
  | (with_reducible refine LeO.ite ?_ ?_)
  | (with_reducible refine LeO.bind ?_ (fun _ => ?_))
abbrev Book (l : List S48) (A0 : Option Addr) (c0 : Nat) (bb mb : Nat) (met : Int) (w0 w : World) : Prop := Env l A0 c0 LL FF bb mb met w0 w
set_option maxHeartbeats 8000000 in
set_option maxRecDepth 100000 in
theorem in.calls (k : Nat) (l : List S48) (A0 : Option Addr) (c0 : Nat) (bb mb : Nat) (met : Int) (w0 w : World) (n : S31) (A1 : Option Addr) (c1 : Nat) (A2 : Option Addr) (c2 : Nat) (day : Int) (r : Bool)
    (he : Book l A0 c0 bb mb met w0 w) (h1 : (Kd.int .i64).C w0 A1 n.f1.length n.f1) (h1c : n.f1.length ≤ c1) (h2 : k31.C w0 A2 n.f2.length n.f2) (h2c : n.f2.length ≤ c2) (h : in.f k l n day = some r) :
    Calls Tryd.prog 15 #[.pointer (some ⟨bb, 0, none⟩), .agg #[.int .i64 n.f0, .slice A1 n.f1.length c1, .slice A2 n.f2.length c2, .string n.f3], .int .i64 day] w fun e w' => e = .returned (.bool r) ∧ KB (fun j => j = mb) w w' ∧ Memo l LL FF mb w' := by
  unfold in.f at h
  obtain ⟨⟨f, g⟩, hs, h⟩ := Option.bind_eq_some_iff.mp h
  simp only at h
  by_cases d1 : 0 ≤ f
  rotate_left
  · rw [if_neg d1] at h; cases h
  rw [if_pos d1] at h
  by_cases d2 : f ≤ 3652059
  rotate_left
  · rw [if_neg d2] at h; cases h
  rw [if_pos d2] at h
  obtain ⟨t, ht, h⟩ := Option.bind_eq_some_iff.mp h
  by_cases d3 : t = (f, g)
  rotate_left
  · rw [if_neg d3] at h; cases h
  rw [if_pos d3] at h
  subst d3
  obtain ⟨m, hm, h⟩ := Option.bind_eq_some_iff.mp h
  obtain ⟨b, hbit, h⟩ := Option.bind_eq_some_iff.mp h
  obtain rfl := Option.some.inj h
  clear h
  have hL := LL_of ht
  have hF := FF_mem d1 d2
  clear ht d1 d2
  go_enter Tryd.func15, Tryd.ntmps15
  go_wp2_with (fail)
  have hspan := fun (W' : World) => cal_spanOf.calls k day f g W' hs
  obtain ⟨W, hW⟩ : ∃ W, W = w.alloc (.cells #[.int .i64 n.f0, .slice A1 n.f1.length c1, .slice A2 n.f2.length c2, .string n.f3] 31 (0, 0)) := ⟨_, rfl⟩
  have hb : Below w.heap.size w W := by rw [hW]; exact below_alloc (Below.refl _ _) _
  have kn : W.heap[w.heap.size]? = some (.cells #[.int .i64 n.f0, .slice A1 n.f1.length c1, .slice A2 n.f2.length c2, .string n.f3] 31 (0, 0)) := by rw [hW]; exact blk_new _ _
  rw [← hW]
  clear hW hs
  refine (hspan _).mono ?_
  rintro e w1 ⟨rfl, hb1⟩
  go_wp2_with (fail)
  obtain ⟨V, hV⟩ : ∃ V, V = w1.alloc (.cells #[.int .i64 f, .int .i64 g] 64 (0, 0)) := ⟨_, rfl⟩
  have hbV : Below w.heap.size w V := by rw [hV]; exact below_alloc (hb.trans (hb1.mono hb.size)) _
  have kn' : V.heap[w.heap.size]? = some (.cells #[.int .i64 n.f0, .slice A1 n.f1.length c1, .slice A2 n.f2.length c2, .string n.f3] 31 (0, 0)) := by rw [hV]; exact blk_alloc ((hb1.block _ (blk_lt kn)).trans kn) _
  have kp : V.heap[w1.heap.size]? = some (.cells #[.int .i64 f, .int .i64 g] 64 (0, 0)) := by rw [hV]; exact blk_new _ _
  have hmb := he.mlt
  have hlt1 : mb < w1.heap.size := Nat.lt_of_lt_of_le hmb (Nat.le_trans hb.size hb1.size)
  rw [← hV]
  clear hV
  have hWW := KB.refl (fun j => j = mb) V
  have hEV := he.below_ hbV
  have HS : Aside0 (∀ W' : World, KB (fun j => j = mb) V W' → W'.cell? ⟨w.heap.size, 0, none⟩ = some (.int .i64 n.f0) ∧ W'.cell? ⟨w.heap.size, 1, none⟩ = some (.slice A1 n.f1.length c1) ∧ W'.cell? ⟨w.heap.size, 2, none⟩ = some (.slice A2 n.f2.length c2) ∧ W'.cell? ⟨w.heap.size, 3, none⟩ = some (.string n.f3) ∧ W'.cell? ⟨w1.heap.size, 0, none⟩ = some (.int .i64 f) ∧ W'.cell? ⟨w1.heap.size, 1, none⟩ = some (.int .i64 g)) := by
    constructor
    intro W' hW'
    have b_ : ∀ {q : Nat} {o : Obj} (hq : V.heap[q]? = some o) (j : Nat), q ≠ mb → W'.cell? ⟨q, j, none⟩ = V.cell? ⟨q, j, none⟩ := fun {q o} hq j hn => World.cell?_of_block (w := V) (hW'.block q (blk_lt hq) hn)
    have nn : w.heap.size ≠ mb := by omega
    have np : w1.heap.size ≠ mb := by omega
    exact ⟨(b_ kn' 0 nn).trans (blk_cell kn' 0), (b_ kn' 1 nn).trans (blk_cell kn' 1), (b_ kn' 2 nn).trans (blk_cell kn' 2), (b_ kn' 3 nn).trans (blk_cell kn' 3), (b_ kp 0 np).trans (blk_cell kp 0), (b_ kp 1 np).trans (blk_cell kp 1)⟩
  have hcall := fun (W' : World) (hW : Below V.heap.size V W') => month.calls l A0 c0 LL FF bb mb met w0 k n A1 c1 A2 c2 f g m W' (hEV.below_ hW) h1 h1c h2 h2c hF hL hm
  have hsb := fun (W' : World) => cal_span_bit.calls f g day b W' hbit
  have HE := Aside0.mk hEV
  have HB := Aside0.mk hbV
  have hV0 := Below.refl V.heap.size V
  clear he h1 h2 hm hbit hL hF kn kn' kp hEV hbV hb hb1 hspan
  go_region_held3 (fun W' => W'.cell? ⟨w.heap.size, 0, none⟩ = some (.int .i64 n.f0) ∧ W'.cell? ⟨w.heap.size, 1, none⟩ = some (.slice A1 n.f1.length c1) ∧ W'.cell? ⟨w.heap.size, 2, none⟩ = some (.slice A2 n.f2.length c2) ∧ W'.cell? ⟨w.heap.size, 3, none⟩ = some (.string n.f3) ∧ W'.cell? ⟨w1.heap.size, 0, none⟩ = some (.int .i64 f) ∧ W'.cell? ⟨w1.heap.size, 1, none⟩ = some (.int .i64 g))
    (first | exact HS.out _ kb3 | exact HS.out _ kb3.drew | exact HS.out _ kb2 | exact HS.out _ kb2.drew | exact HS.out _ hWW | exact HS.out _ hWW.drew)
    (first | (go_at_call 25; refine (hcall _ (by first | exact hV0 | exact below_drew1 hV0 | exact hb3)).mono ?_; rintro e w2 ⟨rfl, kk2, mm2⟩; have kb2 := (show KB (fun j => j = mb) V w2 from (by first | exact hWW.trans kk2 (fun j h => .inl h) | exact hWW.drew.trans kk2 (fun j h => .inl h) | exact kb3.trans kk2 (fun j h => .inl h))); clear kk2) | (go_at_call 26; refine (hsb _).mono ?_; rintro e w3 ⟨rfl, hb3'⟩; first | (have kb3 := kb2.go hb3'; have mm3 := mm2.go hb3'; clear hb3') | (have hb3 := (show Below V.heap.size V w3 from (by first | exact hV0.trans hb3' | exact (below_drew1 hV0).trans hb3')); have kb3 := hWW.go hb3; clear hb3')))
  go_wp2
  go_ret
  exact ⟨rfl, (KB.of_below HB.out).trans kb3 (fun j h => .inl h), mm3⟩

end Go.Proofs.YtpcjbnaggeiaoaaDoor.PCalMoved
