/- Rows of elements of several cells: copied over, cleared, made longer by zero values; no condition. -/
import Derived.Test.YtakmcbakogjeeaaWRow
import Derived.Laws.CopyRow
import Derived.Lib.AppendZerosOnto
import Derived.Lib.Overlaps
set_option linter.unusedVariables false
set_option linter.unusedSimpArgs false
namespace Go.Proofs.Ytakmcbakogjeeaa.Rw
open Go.RowKit Go.Proofs.YtakmcbakogjeeaaW.PrintWords
/-- copy over a row, elements of several cells. -/
theorem run_copy_rowk {P : Program} (w : World) (dT sT ty elem : TypeId) (size : Nat) (g o dLen dCap : Nat) (a : Addr) (sLen sCap : Nat) (cur : Array Value) (t : TypeId) (cs : List Value)
    (hu : P.underlying dT = some (.slice elem)) (hs : (P.info? elem).map (·.size) = some size)
    (hg : w.heap[g]? = some (.cells cur t (0, 0))) (hn : cs.length = Nat.min sLen dLen * size)
    (hsrc : ∀ j v, cs[j]? = some v → w.cell? (a.add j) = some v) (hfit : o + cs.length ≤ cur.size) (h1 : ∀ v ∈ cs, v.oneCell' = true) :
    (Builtin.copy_ #[dT, sT] ty #[.slice (some ⟨g, o, none⟩) dLen dCap, .slice (some a) sLen sCap]).run P w =
      .ok (goInt (Nat.min sLen dLen)) (w.setRow g (cur.toList.take o ++ cs ++ cur.toList.drop (o + cs.length)).toArray) := by
  have hl := run_loadCells_list (P := P) w a cs hsrc
  have hst := run_storeCells_at P g o t cs 0 cur w hg (by simpa using hfit) h1
  cases hq : P.info? elem with
  | none => simp [hq] at hs
  | some i =>
    have hi : i.size = size := by simpa [hq] using hs
    simp [Builtin.copy_, run_underlying hu, Builtin.lenOf, Builtin.firstCells, sizeOf, typeInfo, hq, hi, ← hn, hl, hst]
theorem one_cells {z : Value} {n : Nat} (h : ∀ v ∈ z.cells.toList, v.oneCell' = true) : ∀ v ∈ (Builtin.zeroCells z.cells n).toList, v.oneCell' = true := by
  intro v hv
  unfold Builtin.zeroCells at hv
  simp only [Array.toList_map, List.mem_map] at hv
  obtain ⟨i, hi, rfl⟩ := hv
  have hp : 0 < z.cells.size := by
    rcases Nat.eq_zero_or_pos z.cells.size with h0 | h0
    · rw [h0, Nat.mul_zero] at hi; simp at hi
    · exact h0
  have hlt := Nat.mod_lt i hp
  rw [getElem!_pos z.cells (i % z.cells.size) hlt]
  exact h _ (by simp)
/-- clear over a row, elements of several cells. -/
theorem run_clear_rowk {P : Program} (w : World) (t e ty : TypeId) (z : Value) (ht : P.underlying t = some (.slice e)) (hv : ∀ w, (zeroValue e).run P w = .ok z w) (h1 : ∀ v ∈ z.cells.toList, v.oneCell' = true)
    (g o n c : Nat) (cur : Array Value) (t' : TypeId) (hg : w.heap[g]? = some (.cells cur t' (0, 0))) (hfit : o + n * z.cells.size ≤ cur.size) :
    (Builtin.clear_ #[t] ty #[.slice (some ⟨g, o, none⟩) n c]).run P w = .ok (.tuple #[]) (w.setRow g (cur.toList.take o ++ (Builtin.zeroCells z.cells n).toList ++ cur.toList.drop (o + n * z.cells.size)).toArray) := by
  have hlen : (Builtin.zeroCells z.cells n).toList.length = n * z.cells.size := by rw [Array.length_toList, size_zeroCells]
  cases n with
  | zero =>
    have h0 : (Builtin.zeroCells z.cells 0).toList = [] := List.eq_nil_of_length_eq_zero (by rw [hlen]; simp)
    rw [h0]
    simp only [List.append_nil, Nat.zero_mul, Nat.add_zero, List.take_append_drop, Array.toArray_toList]
    rw [setRow_self w g cur t' (0, 0) hg]
    simp [Builtin.clear_, run_underlying ht]
  | succ n =>
    have hst := run_storeCells_at P g o t' (Builtin.zeroCells z.cells (n + 1)).toList 0 cur w hg (by rw [hlen]; simpa using hfit) (one_cells h1)
    simp only [Nat.add_zero, hlen] at hst
    simp [Builtin.clear_, run_underlying ht, hv, hst]
/-- A list with cs written from place o on. -/
def spl {α : Type} (L : List α) (o : Nat) (cs : List α) : List α := L.take o ++ cs ++ L.drop (o + cs.length)
theorem spl_length {α : Type} (L : List α) (o : Nat) (cs : List α) (h : o + cs.length ≤ L.length) : (spl L o cs).length = L.length := by
  unfold spl
  simp only [List.length_append, List.length_take, List.length_drop]
  omega
theorem spl_get {α : Type} (L : List α) (o : Nat) (cs : List α) (h : o + cs.length ≤ L.length) (k : Nat) : (spl L o cs)[k]? = if o ≤ k ∧ k < o + cs.length then cs[k - o]? else L[k]? := by
  unfold spl
  by_cases h1 : k < o
  · rw [if_neg (by omega), List.append_assoc, List.getElem?_append_left (by rw [List.length_take]; omega), List.getElem?_take, if_pos h1]
  · by_cases h2 : k < o + cs.length
    · rw [if_pos (by omega), List.getElem?_append_left (by rw [List.length_append, List.length_take]; omega), List.getElem?_append_right (by rw [List.length_take]; omega), List.length_take, Nat.min_eq_left (by omega)]
    · rw [if_neg (by omega), List.getElem?_append_right (by rw [List.length_append, List.length_take]; omega), List.length_append, List.length_take, Nat.min_eq_left (by omega), List.getElem?_drop]
      congr 1
      omega
/-- What a row holds from I to J is replaced by V. -/
def repl {α : Type} (X : List α) (I J N : Nat) (V : List α) : List α := X.take I ++ V ++ (X.take N).drop J
theorem repl_length {α : Type} (X : List α) (I J N : Nat) (V : List α) (h1 : I ≤ J) (h2 : J ≤ N) (h3 : N ≤ X.length) : (repl X I J N V).length = I + V.length + (N - J) := by
  unfold repl
  simp only [List.length_append, List.length_take, List.length_drop]
  omega
theorem repl_get {α : Type} (X : List α) (I J N : Nat) (V : List α) (h1 : I ≤ J) (h2 : J ≤ N) (h3 : N ≤ X.length) (k : Nat) : (repl X I J N V)[k]? = if k < I then X[k]? else if k < I + V.length then V[k - I]? else if k < I + V.length + (N - J) then X[k - (I + V.length) + J]? else none := by
  unfold repl
  by_cases c1 : k < I
  · rw [if_pos c1, List.append_assoc, List.getElem?_append_left (by rw [List.length_take]; omega), List.getElem?_take, if_pos c1]
  · rw [if_neg c1]
    by_cases c2 : k < I + V.length
    · rw [if_pos c2, List.getElem?_append_left (by rw [List.length_append, List.length_take]; omega), List.getElem?_append_right (by rw [List.length_take]; omega), List.length_take, Nat.min_eq_left (by omega)]
    · rw [if_neg c2, List.getElem?_append_right (by rw [List.length_append, List.length_take]; omega), List.length_append, List.length_take, Nat.min_eq_left (by omega), List.getElem?_drop, List.getElem?_take]
      by_cases c3 : k < I + V.length + (N - J)
      · rw [if_pos c3, if_pos (by omega)]
        congr 1
        omega
      · rw [if_neg c3, if_neg (by omega)]
/-- First what lies behind is moved, then V is written. -/
theorem repl_shift {α : Type} (X : List α) (I J N : Nat) (V : List α) (h1 : I ≤ J) (h2 : J ≤ N) (h3 : N ≤ X.length) (h4 : I + V.length + (N - J) ≤ X.length) :
    (spl (spl X (I + V.length) ((X.take N).drop J)) I V).take (I + V.length + (N - J)) = repl X I J N V := by
  have hc : ((X.take N).drop J).length = N - J := by rw [List.length_drop, List.length_take]; omega
  apply List.ext_getElem?
  intro k
  rw [repl_get X I J N V h1 h2 h3, List.getElem?_take]
  by_cases c0 : k < I + V.length + (N - J)
  · rw [if_pos c0, spl_get _ _ _ (by rw [spl_length _ _ _ (by rw [hc]; omega)]; omega), spl_get _ _ _ (by rw [hc]; omega), hc]
    by_cases c1 : k < I
    · rw [if_neg (by omega), if_neg (by omega), if_pos c1]
    · by_cases c2 : k < I + V.length
      · rw [if_pos (by omega), if_neg c1, if_pos c2]
      · rw [if_neg (by omega), if_pos (by omega), if_neg c1, if_neg c2, if_pos c0, List.getElem?_drop, List.getElem?_take, if_pos (by omega)]
        congr 1
        omega
  · rw [if_neg c0, if_neg (by omega), if_neg (by omega), if_neg c0]
/-- First V is written, then what lies behind is moved. -/
theorem repl_shrink {α : Type} (X : List α) (I J N : Nat) (V : List α) (h1 : I + V.length ≤ J) (h2 : J ≤ N) (h3 : N ≤ X.length) :
    (spl (spl X I V) (I + V.length) ((X.take N).drop J)).take (I + V.length + (N - J)) = repl X I J N V ∧ (((spl X I V).take N).drop J = (X.take N).drop J) := by
  have hc : ((X.take N).drop J).length = N - J := by rw [List.length_drop, List.length_take]; omega
  constructor
  · apply List.ext_getElem?
    intro k
    rw [repl_get X I J N V (by omega) h2 h3, List.getElem?_take]
    by_cases c0 : k < I + V.length + (N - J)
    · rw [if_pos c0, spl_get _ _ _ (by rw [spl_length _ _ _ (by omega), hc]; omega), spl_get _ _ _ (by omega), hc]
      by_cases c1 : k < I
      · rw [if_neg (by omega), if_neg (by omega), if_pos c1]
      · by_cases c2 : k < I + V.length
        · rw [if_neg (by omega), if_pos (by omega), if_neg c1, if_pos c2]
        · rw [if_pos (by omega), if_neg c1, if_neg c2, if_pos c0, List.getElem?_drop, List.getElem?_take, if_pos (by omega)]
          congr 1
          omega
    · rw [if_neg c0, if_neg (by omega), if_neg (by omega), if_neg c0]
  · apply List.ext_getElem?
    intro k
    rw [List.getElem?_drop, List.getElem?_drop, List.getElem?_take, List.getElem?_take, spl_get _ _ _ (by omega)]
    split
    · rw [if_neg (by omega)]
    · rfl
/-- Into a new row that holds what lies ahead. -/
theorem repl_grow {α : Type} (X Y : List α) (I J N : Nat) (V : List α) (h1 : I ≤ J) (h2 : J ≤ N) (h3 : N ≤ X.length) (h4 : I + V.length + (N - J) ≤ Y.length) (hY : Y.take I = X.take I) :
    (spl (spl Y I V) (I + V.length) ((X.take N).drop J)).take (I + V.length + (N - J)) = repl X I J N V := by
  have hc : ((X.take N).drop J).length = N - J := by rw [List.length_drop, List.length_take]; omega
  apply List.ext_getElem?
  intro k
  rw [repl_get X I J N V h1 h2 h3, List.getElem?_take]
  by_cases c0 : k < I + V.length + (N - J)
  · rw [if_pos c0, spl_get _ _ _ (by rw [spl_length _ _ _ (by omega), hc]; omega), spl_get _ _ _ (by omega), hc]
    by_cases c1 : k < I
    · rw [if_neg (by omega), if_neg (by omega), if_pos c1]
      have := congrArg (fun l => l[k]?) hY
      simp only [List.getElem?_take] at this
      rwa [if_pos c1, if_pos c1] at this
    · by_cases c2 : k < I + V.length
      · rw [if_neg (by omega), if_pos (by omega), if_neg c1, if_pos c2]
      · rw [if_pos (by omega), if_neg c1, if_neg c2, if_pos c0, List.getElem?_drop, List.getElem?_take, if_pos (by omega)]
        congr 1
        omega
  · rw [if_neg c0, if_neg (by omega), if_neg (by omega), if_neg c0]
section
variable {P : Program}
/-- 'copy' for the walk, where its run is known. -/
theorem wpList_copy_run (w : World) {ops : Array Oper} {rest : List Oper} {o : Oper} {a : Act} {Q : Exit → Act → World → Prop} (hgd : o.guard = none) (d s : Operand) (t t' : TypeId)
    (ho : o.op = .call { callee := .builtin .copy, args := #[d, s], argTypes := #[t, t'] }) (v u : Value) (hd : a.eval d = v) (hs : a.eval s = u) {v' : Value} {w' : World}
    (hr : (Builtin.copy_ #[t, t'] o.type #[v, u]).run P w = .ok v' w') (h : wpList P ops Q rest (a.put o.dst v') w') : wpList P ops Q (o :: rest) a w := by
  refine wpList_plain hgd fun K hK => ?_
  unfold Oper.wp execOp
  simp only [ho, resolve, invoke, builtin, Sem.run_bind, Sem.run_pure, Result.andThen_ok, List.map_toArray, List.map_cons, List.map_nil, hd, hs, hr]
  exact hK _ _ h
/-- .. and as one step of a region that draws. -/
theorem step_copy_run {ops : Array Oper} {o : Oper} {a : Act} {w : World} {K : Act → World → Prop} {Q : Exit → Act → World → Prop} {E : Prop}
    (hg : o.guard = none) (d x : Operand) (dT sT : TypeId) (hop : o.op = Op.call { callee := Callee.builtin Builtin.copy, args := #[d, x], argTypes := #[dT, sT] })
    (v u : Value) (hd : a.eval d = v) (hx : a.eval x = u) {v' : Value} {w' : World} (hr : (Builtin.copy_ #[dT, sT] o.type #[v, u]).run P w = .ok v' w') (hK : K (a.put o.dst v') w') :
    if Region.wanted o (yielded ops a.tmps) = true then Oper.wp P o a w K Q else E := by
  have hw : Region.wanted o (yielded ops a.tmps) = true := by simp [Region.wanted, hg]
  rw [if_pos hw]
  unfold Oper.wp
  simp [execOp, hop, resolve, invoke, builtin, hd, hx, hr, Result.andThen]
  exact hK
/-- 'clear' for the walk, where its run is known. -/
theorem wpList_clear_run (w : World) {ops : Array Oper} {rest : List Oper} {o : Oper} {a : Act} {Q : Exit → Act → World → Prop} (hgd : o.guard = none) (d : Operand) (t : TypeId)
    (ho : o.op = .call { callee := .builtin .clear, args := #[d], argTypes := #[t] }) (v : Value) (hd : a.eval d = v) {v' : Value} {w' : World}
    (hr : (Builtin.clear_ #[t] o.type #[v]).run P w = .ok v' w') (h : wpList P ops Q rest (a.put o.dst v') w') : wpList P ops Q (o :: rest) a w := by
  refine wpList_plain hgd fun K hK => ?_
  unfold Oper.wp execOp
  simp only [ho, resolve, invoke, builtin, Sem.run_bind, Sem.run_pure, Result.andThen_ok, List.map_toArray, List.map_cons, List.map_nil, hd, hr]
  exact hK _ _ h
/-- Cells V, m elements of them, that can be read behind a slice value, in another block than g. -/
structure SrcV (w : World) (g size : Nat) (A : Option Addr) (m c : Nat) (V : List Value) : Prop where
  len : V.length = m * size
  one : ∀ v ∈ V, v.oneCell' = true
  at_ : (A = none ∧ m = 0 ∧ c = 0) ∨ ∃ bv ov bcur tb, A = some ⟨bv, ov, none⟩ ∧ bv ≠ g ∧ w.heap[bv]? = some (.cells bcur tb (0, 0)) ∧ ∀ j v, V[j]? = some v → bcur[ov + j]? = some v
theorem SrcV.none_ (w : World) (g size : Nat) : SrcV w g size none 0 0 [] := ⟨by simp, (fun _ h => by cases h), .inl ⟨rfl, rfl, rfl⟩⟩
theorem SrcV.move {w W : World} {g size : Nat} {A : Option Addr} {m c : Nat} {V : List Value} (h : SrcV w g size A m c V) (hw : ∀ k, k < w.heap.size → k ≠ g → W.heap[k]? = w.heap[k]?) : SrcV W g size A m c V := by
  refine ⟨h.len, h.one, ?_⟩
  rcases h.at_ with h0 | ⟨bv, ov, bcur, tb, h1, h2, h3, h4⟩
  · exact .inl h0
  · exact .inr ⟨bv, ov, bcur, tb, h1, h2, (hw bv (Array.getElem?_eq_some_iff.1 h3).1 h2).trans h3, h4⟩
theorem setRow_heap_ne (w : World) (g k : Nat) (cs : Array Value) (h : k ≠ g) : (w.setRow g cs).heap[k]? = w.heap[k]? := by
  simp [World.setRow, Array.getElem?_modify, Ne.symm h]
theorem setRow_size (w : World) (g : Nat) (cs : Array Value) : (w.setRow g cs).heap.size = w.heap.size := by
  simp [World.setRow]
/-- copy from it. -/
theorem SrcV.copy {W : World} {g size : Nat} {A : Option Addr} {m c : Nat} {V : List Value} (h : SrcV W g size A m c V) (dT sT ty e : TypeId) (hu : P.underlying dT = some (.slice e)) (hs : (P.info? e).map (·.size) = some size)
    (gd o dl dc : Nat) (cur : Array Value) (t : TypeId) (hg : W.heap[gd]? = some (.cells cur t (0, 0))) (hdl : m ≤ dl) (hfit : o + V.length ≤ cur.size) :
    (Builtin.copy_ #[dT, sT] ty #[.slice (some ⟨gd, o, none⟩) dl dc, .slice A m c]).run P W = .ok (goInt m) (W.setRow gd (spl cur.toList o V).toArray) := by
  have hV := h.len
  have hmin : Nat.min m dl = m := by simp only [Nat.min_def]; split <;> omega
  rcases h.at_ with ⟨h1, h2, h3⟩ | ⟨bv, ov, bcur, tb, h1, h2, h3, h4⟩
  · subst h1; subst h2; subst h3
    have hV0 : V = [] := List.eq_nil_of_length_eq_zero (by rw [hV, Nat.zero_mul])
    subst hV0
    have : (spl cur.toList o []).toArray = cur := by simp [spl]
    rw [this, setRow_self W gd cur t (0, 0) hg]
    exact run_copy_nil P W dT sT ty e ⟨gd, o, none⟩ dl dc hu (by rw [hs]; rfl)
  · subst h1
    have hr := run_copy_rowk W dT sT ty e size gd o dl dc ⟨bv, ov, none⟩ m c cur t V hu hs hg (by rw [hmin, hV]) (fun j v hj => by rw [add_at, cell_of_row W bv _ bcur _ _ h3]; exact h4 j v hj) hfit h.one
    rw [hmin] at hr
    exact hr
/-- copy from a place of a row. -/
theorem copy_at (W : World) (dT sT ty e : TypeId) (size : Nat) (hu : P.underlying dT = some (.slice e)) (hs : (P.info? e).map (·.size) = some size)
    (gd o dl dc gs so sl sc k : Nat) (cur scur : Array Value) (t t2 : TypeId) (cs : List Value) (hg : W.heap[gd]? = some (.cells cur t (0, 0))) (hgs : W.heap[gs]? = some (.cells scur t2 (0, 0))) (hk : Nat.min sl dl = k) (hl : cs.length = k * size)
    (hcs : ∀ j v, cs[j]? = some v → scur[so + j]? = some v) (h1 : ∀ v ∈ cs, v.oneCell' = true) (hfit : o + cs.length ≤ cur.size) :
    (Builtin.copy_ #[dT, sT] ty #[.slice (some ⟨gd, o, none⟩) dl dc, .slice (some ⟨gs, so, none⟩) sl sc]).run P W = .ok (goInt k) (W.setRow gd (spl cur.toList o cs).toArray) := by
  have hr := run_copy_rowk W dT sT ty e size gd o dl dc ⟨gs, so, none⟩ sl sc cur t cs hu hs hg (by rw [hk, hl]) (fun j v hj => by rw [add_at, cell_of_row W gs _ scur _ _ hgs]; exact hcs j v hj) hfit h1
  rw [hk] at hr
  exact hr
/-- append of it, where there is room. -/
theorem SrcV.append_room {W : World} {g size : Nat} {A : Option Addr} {m c : Nat} {V : List Value} (h : SrcV W g size A m c V) (t ty e : TypeId) (ht : P.underlying t = some (.slice e)) (hs : (P.info? e).map (·.size) = some size)
    (gd n dc : Nat) (cur : Array Value) (t' : TypeId) (hg : W.heap[gd]? = some (.cells cur t' (0, 0))) (hroom : n + m ≤ dc) (hfit : n * size + V.length ≤ cur.size) :
    (Builtin.append_ #[t, t] ty #[.slice (some ⟨gd, 0, none⟩) n dc, .slice A m c]).run P W = .ok (.slice (some ⟨gd, 0, none⟩) (n + m) dc) (W.setRow gd (spl cur.toList (n * size) V).toArray) := by
  have hV := h.len
  cases hq : P.info? e with
  | none => simp [hq] at hs
  | some i =>
  have hi : i.size = size := by simpa [hq] using hs
  subst hi
  rcases h.at_ with ⟨h1, h2, h3⟩ | ⟨bv, ov, bcur, tb, h1, h2, h3, h4⟩
  · subst h1; subst h2; subst h3
    have hV0 : V = [] := List.eq_nil_of_length_eq_zero (by rw [hV, Nat.zero_mul])
    subst hV0
    have : (spl cur.toList (n * i.size) []).toArray = cur := by simp [spl]
    rw [this, setRow_self W gd cur t' (0, 0) hg]
    have hroom' : n ≤ dc := by omega
    simp [Builtin.append_, run_underlying ht, sizeOf, typeInfo, hq, Builtin.lenOf, hroom', Builtin.firstCells, storeCells]
  · subst h1
    have hfc := run_firstCells_some (P := P) W i.size m ⟨bv, ov, none⟩ m c V hV (fun j v hj => by rw [add_at, cell_of_row W bv _ bcur _ _ h3]; exact h4 j v hj)
    have hst := run_storeCells_at P gd (n * i.size) t' V 0 cur W hg (by simpa using hfit) h.one
    simp only [Nat.add_zero] at hst
    have ha : (⟨gd, 0, none⟩ : Addr).add (n * i.size) = ⟨gd, n * i.size, none⟩ := by rw [add_at, Nat.zero_add]
    unfold spl
    simp [Builtin.append_, run_underlying ht, sizeOf, typeInfo, hq, Builtin.lenOf, hroom, hfc, ha, hst]
/-- What is left behind: a row at another value, and else but its block and new ones as it was. -/
structure Rp (w w' : World) (base : Nat) (e : TypeId) (size : Nat) (v v' : Value) (n' : Nat) (ys : List Value) : Prop where
  own : w'.ownsRow base e size v' n' ys
  grown : w.grownBy w' v.ownBlock
  at_ : v'.ownBlock = v.ownBlock ∨ ∃ b, v'.ownBlock = some b ∧ w.heap.size ≤ b
theorem Rp.drewN {w w' : World} {base : Nat} {e : TypeId} {size : Nat} {v v' : Value} {n' : Nat} {ys : List Value} (h : Rp w w' base e size v v' n' ys) (k : Nat) : Rp w (w'.drewN k) base e size v v' n' ys :=
  ⟨h.own, ⟨h.grown.os, h.grown.tape, h.grown.output, h.grown.size, h.grown.block⟩, h.at_⟩
theorem Rp.of_drewN {w w' : World} {base : Nat} {e : TypeId} {size : Nat} {v v' : Value} {n' : Nat} {ys : List Value} {k : Nat} (h : Rp (w.drewN k) w' base e size v v' n' ys) : Rp w w' base e size v v' n' ys :=
  ⟨h.own, ⟨h.grown.os, h.grown.tape, h.grown.output, h.grown.size, h.grown.block⟩, h.at_⟩
/-- In place. -/
theorem rp_set {w W : World} (hw : W.heap = w.heap) (h1 : W.os = w.os) (h2 : W.tape = w.tape) (h3 : W.output = w.output) {g n c n' base size : Nat} {e : TypeId} {cur : Array Value} {L2 ys : List Value} (hg : w.heap[g]? = some (.cells cur e (0, 0))) (hb : base ≤ g)
    (hl : L2.length = cur.size) (hn : n' ≤ c) (hc : c ≤ maxLen) (hcs : c * size = cur.size) (ht : L2.take (n' * size) = ys) :
    Rp w (W.setRow g L2.toArray) base e size (.slice (some ⟨g, 0, none⟩) n c) (.slice (some ⟨g, 0, none⟩) n' c) n' ys := by
  have hgW : W.heap[g]? = some (.cells cur e (0, 0)) := by rw [hw]; exact hg
  have hm : n' * size ≤ c * size := Nat.mul_le_mul_right _ hn
  refine ⟨⟨by rw [← ht, List.length_take, hl]; omega, .inr ⟨g, c, L2.toArray, rfl, hb, setRow_heap W g cur _ e _ hgW, hn, hc, by simp only [List.size_toArray]; omega, by simpa using ht⟩⟩, ⟨h1, h2, h3, by rw [setRow_size, hw]; exact Nat.le_refl _, fun k hk hne => ?_⟩, .inl rfl⟩
  rw [setRow_heap_ne _ _ _ _ (fun he => hne (by rw [he]; rfl)), hw]
/-- In a new row. -/
theorem rp_new {w W : World} {base size : Nat} {e : TypeId} {v : Value} {Y ys : List Value} {n' c' : Nat} (h1 : W.os = w.os) (h2 : W.tape = w.tape) (h3 : W.output = w.output) (hs : w.heap.size < W.heap.size) (hk : ∀ k, k < w.heap.size → W.heap[k]? = w.heap[k]?)
    (hg : W.heap[w.heap.size]? = some (.cells Y.toArray e (0, 0))) (hb : base ≤ w.heap.size) (hn : n' ≤ c') (hc : c' ≤ maxLen) (hcs : c' * size = Y.length) (ht : Y.take (n' * size) = ys) :
    Rp w W base e size v (.slice (some ⟨w.heap.size, 0, none⟩) n' c') n' ys := by
  have hm : n' * size ≤ c' * size := Nat.mul_le_mul_right _ hn
  exact ⟨⟨by rw [← ht, List.length_take]; omega, .inr ⟨_, c', Y.toArray, rfl, hb, hg, hn, hc, by simp only [List.size_toArray]; omega, by simpa using ht⟩⟩, ⟨h1, h2, h3, Nat.le_of_lt hs, fun k hk' _ => hk k hk'⟩, .inr ⟨_, rfl, Nat.le_refl _⟩⟩
end
end Go.Proofs.Ytakmcbakogjeeaa.Rw
