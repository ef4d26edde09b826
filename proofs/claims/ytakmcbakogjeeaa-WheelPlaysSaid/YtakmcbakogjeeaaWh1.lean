/- Wheels (layer 25): what lies in memory; what a change leaves; New, none, isTime, At, Len; no condition. -/
import Derived.Test.YtakmcbakogjeeaaWhPure
import Derived.Test.YtakmcbakogjeeaaIb2
import Derived.Test.YtakmcbakogjeeaaRowK
set_option linter.unusedVariables false
set_option linter.unusedSimpArgs false
namespace Go.Proofs.Ytakmcbakogjeeaa.Wh
open Go Go.RowKit Go.Maps Go.Proofs.Ytakmcbakogjeeaa.Rm Go.Proofs.Ytakmcbakogjeeaa.Rw
open Go.Proofs.YtakmcbakogjeeaaW.PrintWords Go.Proofs.YtakmcbakogjeeaaW.PrintLast Go.Proofs.YtakmcbakogjeeaaW.PrintMore
theorem law : Keyed Try.prog 3 := int_keyed Try.underlying3
theorem zeroI (w : World) : (zeroValue 3).run Try.prog w = .ok (.int .i64 0) w := by kernel_rfl
theorem wf_of {k : Int} (h0 : -9223372036854775808 ≤ k) (h1 : k ≤ 9223372036854775807) : (Lit.int .i64 k).wf = true := by
  have m0 : IntKind.i64.min = -9223372036854775808 := by decide +kernel
  have m1 : IntKind.i64.max = 9223372036854775807 := by decide +kernel
  simp [Lit.wf, m0, m1]
  omega
def tcells (l : List Tm) : List Value := l.flatMap (fun t => [.int .i64 t.1, .int .i64 t.2])
theorem tcells_cons (t : Tm) (l : List Tm) : tcells (t :: l) = .int .i64 t.1 :: .int .i64 t.2 :: tcells l := rfl
theorem tcells_app (l m : List Tm) : tcells (l ++ m) = tcells l ++ tcells m := List.flatMap_append
theorem tcells_len : ∀ l : List Tm, (tcells l).length = l.length * 2
  | [] => rfl
  | t :: l => by rw [tcells_cons, List.length_cons, List.length_cons, tcells_len l, List.length_cons]; omega
theorem tcells_at : ∀ (l : List Tm) (j : Nat) (t : Tm), l[j]? = some t → (tcells l)[j * 2]? = some (.int .i64 t.1) ∧ (tcells l)[j * 2 + 1]? = some (.int .i64 t.2)
  | [], j, t, h => by simp at h
  | x :: l, 0, t, h => by
    obtain rfl : x = t := by simpa using h
    exact ⟨rfl, rfl⟩
  | x :: l, j + 1, t, h => by
    obtain ⟨h1, h2⟩ := tcells_at l j t (by simpa using h)
    rw [tcells_cons]
    exact ⟨by rw [show (j + 1) * 2 = j * 2 + 1 + 1 by omega]; simpa using h1, by rw [show (j + 1) * 2 + 1 = j * 2 + 1 + 1 + 1 by omega]; simpa using h2⟩
theorem tcells_take : ∀ (l : List Tm) (j : Nat), (tcells l).take (j * 2) = tcells (l.take j)
  | _, 0 => by simp [tcells]
  | [], j + 1 => by simp [tcells]
  | t :: l, j + 1 => by
    rw [tcells_cons, show (j + 1) * 2 = j * 2 + 1 + 1 by omega, List.take_succ_cons, List.take_succ_cons, tcells_take l j, List.take_succ_cons, tcells_cons]
/-- A row: its value, its timers. -/
abbrev Row := Value × List Tm
abbrev RowAt (W : World) (b : Nat) (x : Row) : Prop := W.ownsRow b 160 2 x.1 x.2.length (tcells x.2)
def Ap (x y : Row) : Prop := ∀ k, x.1.ownBlock = some k → y.1.ownBlock ≠ some k
theorem ap_symm (x y : Row) (h : Ap x y) : Ap y x := fun k h1 h2 => h k h2 h1
def wcells (now : Int) (R : List Row) (m : Nat) : List Value := [.bool true, .int .i64 now] ++ R.map (·.1) ++ [.map (some m)]
/-- A wheel in block p, its map in block m, its rows. -/
structure WhAt (W : World) (b p m n : Nat) (now : Int) (kv : KV) (R : List Row) : Prop where
  hp : b ≤ p
  hm : b ≤ m
  blk : W.heap[p]? = some (.cells (wcells now R m).toArray 74 (0, 0))
  len : R.length = 577
  mp : W.ownsMap Try.prog 3 rawElem m n (mapD kv)
  row : ∀ x ∈ R, RowAt W b x
  ap : R.Pairwise Ap
/-- The blocks of a wheel. -/
def foot (p m : Nat) (R : List Row) (k : Nat) : Prop := k = p ∨ k = m ∨ ∃ x ∈ R, x.1.ownBlock = some k
/-- What a change of a wheel leaves: what lies below, and all that is no block of the wheel. -/
structure Lf (W W' : World) (b : Nat) (F F' : Nat → Prop) : Prop where
  bel : Below b W W'
  keep : ∀ k, k < W.heap.size → ¬ F k → W'.heap[k]? = W.heap[k]?
  new : ∀ k, F' k → F k ∨ W.heap.size ≤ k
section
variable {W W' W2 : World} {b p m n : Nat} {now : Int} {kv : KV} {R : List Row} {x x' : Row} {F F' F2 : Nat → Prop}
theorem Lf.refl (b : Nat) (W : World) (F : Nat → Prop) : Lf W W b F F := ⟨Below.refl _ _, fun _ _ _ => rfl, fun _ h => .inl h⟩
theorem Lf.trans (h1 : Lf W W' b F F') (h2 : Lf W' W2 b F' F2) : Lf W W2 b F F2 :=
  ⟨h1.bel.trans h2.bel, fun k hk hn => (h2.keep k (Nat.lt_of_lt_of_le hk h1.bel.size) (fun hf => by
      rcases h1.new k hf with h | h
      · exact hn h
      · omega)).trans (h1.keep k hk hn), fun k hf => by
    rcases h2.new k hf with h | h
    · exact h1.new k h
    · exact .inr (Nat.le_trans h1.bel.size h)⟩
theorem Lf.of_below (h : Below W.heap.size W W') (hb : b ≤ W.heap.size) (F : Nat → Prop) : Lf W W' b F F := ⟨h.mono hb, fun k hk _ => h.block k hk, fun _ h => .inl h⟩
theorem RowAt.block (h : RowAt W b x) {k : Nat} (hk : x.1.ownBlock = some k) : b ≤ k ∧ ∃ cs, W.heap[k]? = some (.cells cs 160 (0, 0)) := ⟨by
    rcases h.2 with ⟨e, _⟩ | ⟨g', c, cur, e, hbb, _⟩ <;> rw [e] at hk <;> simp [Value.ownBlock] at hk
    omega, own_typed h k hk⟩
theorem RowAt.move (h : RowAt W b x) (hk : ∀ k, x.1.ownBlock = some k → W'.heap[k]? = W.heap[k]?) : RowAt W' b x := own_move h hk
theorem RowAt.shape (h : RowAt W b x) : (x.1 = .slice none 0 0 ∧ x.2 = []) ∨ ∃ g c, x.1 = .slice (some ⟨g, 0, none⟩) x.2.length c := by
  rcases h.2 with ⟨h1, h2⟩ | ⟨g', cap', cur, h1, _⟩
  · exact .inl ⟨h1, List.length_eq_zero_iff.1 h2⟩
  · exact .inr ⟨_, _, h1⟩
/-- A block of a wheel is of one of its three types. -/
theorem WhAt.foot_ty (h : WhAt W b p m n now kv R) {k : Nat} (hk : foot p m R k) : k < W.heap.size ∧ b ≤ k ∧ ((∃ cs, W.heap[k]? = some (.cells cs 160 (0, 0))) ∨ (∃ cs, W.heap[k]? = some (.cells cs 74 (0, 0))) ∨ ∃ es c, W.heap[k]? = some (.map es c)) := by
  rcases hk with rfl | rfl | ⟨x, hx, hk⟩
  · exact ⟨(Array.getElem?_eq_some_iff.1 h.blk).1, h.hp, .inr (.inl ⟨_, h.blk⟩)⟩
  · obtain ⟨es, clock, hb, _⟩ := h.mp
    exact ⟨(Array.getElem?_eq_some_iff.1 hb).1, h.hm, .inr (.inr ⟨_, _, hb⟩)⟩
  · obtain ⟨h1, cs, hc⟩ := (h.row x hx).block hk
    exact ⟨(Array.getElem?_eq_some_iff.1 hc).1, h1, .inl ⟨_, hc⟩⟩
theorem WhAt.not_foot (h : WhAt W b p m n now kv R) {k : Nat} {cs : Array Value} {t : TypeId} {z : Nat × Nat} (hk : W.heap[k]? = some (.cells cs t z)) (h1 : t ≠ 160) (h2 : t ≠ 74) : ¬ foot p m R k := fun hf => by
  rcases (h.foot_ty hf).2.2 with ⟨cs', hc⟩ | ⟨cs', hc⟩ | ⟨es, c, hc⟩ <;> rw [hk] at hc <;> injection hc with hc
  · injection hc with _ hc; exact h1 hc
  · injection hc with _ hc; exact h2 hc
  · cases hc
theorem Lf.kt (h : Lf W W' b (foot p m R) F') (hw : WhAt W b p m n now kv R) {k : Nat} {cs : Array Value} {t : TypeId} {z : Nat × Nat} (hk : W.heap[k]? = some (.cells cs t z)) (h1 : t ≠ 160) (h2 : t ≠ 74) : W'.heap[k]? = some (.cells cs t z) :=
  (h.keep k (Array.getElem?_eq_some_iff.1 hk).1 (hw.not_foot hk h1 h2)).trans hk
theorem WhAt.move (h : WhAt W b p m n now kv R) (hk : ∀ k, foot p m R k → W'.heap[k]? = W.heap[k]?) : WhAt W' b p m n now kv R := by
  refine ⟨h.hp, h.hm, (hk p (.inl rfl)).trans h.blk, h.len, ?_, fun x hx => (h.row x hx).move (fun k hkk => hk k (.inr (.inr ⟨x, hx, hkk⟩))), h.ap⟩
  obtain ⟨es, clock, hb, hr⟩ := h.mp
  exact ⟨es, clock, (hk m (.inr (.inl rfl))).trans hb, hr⟩
theorem WhAt.below (h : WhAt W b p m n now kv R) (hb : Below W.heap.size W W') : WhAt W' b p m n now kv R := h.move (fun k hk => hb.block k (h.foot_ty hk).1)
theorem WhAt.tight (h : WhAt W b p m n now kv R) : WhAt W b p m kv.length now kv R := ⟨h.hp, h.hm, h.blk, h.len, Rm.tight h.mp, h.row, h.ap⟩
theorem WhAt.cell (h : WhAt W b p m n now kv R) (i : Nat) : W.cell? ⟨p, i, none⟩ = (wcells now R m)[i]? := by
  rw [cell_of_row W p _ _ _ _ h.blk]
  simp
theorem WhAt.c (h : WhAt W b p m n now kv R) : W.cell? ⟨p, 0, none⟩ = some (.bool true) ∧ W.cell? ⟨p, 1, none⟩ = some (.int .i64 now) ∧ W.cell? ⟨p, 579, none⟩ = some (.map (some m)) := by
  refine ⟨by rw [h.cell]; rfl, by rw [h.cell]; rfl, ?_⟩
  rw [h.cell]
  unfold wcells
  rw [List.getElem?_append_right (by simp [h.len])]
  simp [h.len]
theorem WhAt.cr (h : WhAt W b p m n now kv R) {j : Nat} (hj : R[j]? = some x) : W.cell? ⟨p, 2 + j, none⟩ = some x.1 := by
  have hl := (List.getElem?_eq_some_iff.1 hj).1
  rw [h.cell]
  unfold wcells
  rw [List.getElem?_append_left (by simp; omega), List.getElem?_append_right (by simp)]
  simp [hj]
theorem WhAt.free (h : WhAt W b p m n now kv R) (i : Nat) : W.frozen? ⟨p, i, none⟩ = false := blk_frozen h.blk i
theorem WhAt.get (h : WhAt W b p m n now kv R) {j : Nat} (hj : j < 577) : ∃ x, R[j]? = some x ∧ RowAt W b x :=
  ⟨_, List.getElem?_eq_getElem (by rw [h.len]; exact hj), h.row _ (List.getElem_mem _)⟩
theorem wcells_set {now : Int} {R : List Row} {m : Nat} {j : Nat} (hj : j < R.length) (x : Row) : ((wcells now R m).toArray.setIfInBounds (2 + j) x.1) = (wcells now (R.set j x) m).toArray := by
  unfold wcells
  rw [List.setIfInBounds_toArray]
  congr 1
  rw [List.set_append, if_pos (by simp; omega), List.set_append, if_neg (by simp)]
  simp [List.map_set]
end
end Go.Proofs.Ytakmcbakogjeeaa.Wh
