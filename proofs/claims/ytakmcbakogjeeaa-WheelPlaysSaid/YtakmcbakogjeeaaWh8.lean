/- Wheels (layer 25): slices.DeleteFunc of a key; no condition. -/
import Derived.Test.YtakmcbakogjeeaaWh7
set_option linter.unusedVariables false
set_option linter.unusedSimpArgs false
namespace Go.Proofs.Ytakmcbakogjeeaa.Wh
open Go Go.RowKit Go.Maps Go.Proofs.Ytakmcbakogjeeaa.Rm Go.Proofs.Ytakmcbakogjeeaa.Rw
open Go.Proofs.YtakmcbakogjeeaaW.PrintWords Go.Proofs.YtakmcbakogjeeaaW.PrintLast Go.Proofs.YtakmcbakogjeeaaW.PrintMore
variable {W W' W2 : World} {b p m n : Nat} {now : Int} {kv : KV} {R : List Row} {x x' : Row} {F F' F2 : Nat → Prop}
theorem zeroT (w : World) : (zeroValue 160).run Try.prog w = .ok (.agg #[.int .i64 0, .int .i64 0]) w := by kernel_rfl
theorem one_zero : ∀ v ∈ (Value.agg #[.int .i64 0, .int .i64 0]).cells.toList, v.oneCell' = true := by
  intro v hv
  simp [Value.cells] at hv
  rcases hv with rfl | rfl <;> rfl
theorem clear_run {w : World} {g : Nat} {cur : Array Value} (hg : w.heap[g]? = some (.cells cur 160 (0, 0))) (o k dc : Nat) (ho : o * 2 + k * 2 ≤ cur.size) (ty : TypeId) :
    (Builtin.clear_ #[69] ty #[.slice (some ⟨g, o * 2, none⟩) k dc]).run Try.prog w = .ok (.tuple #[]) (w.setRow g (cur.toList.take (o * 2) ++ (Builtin.zeroCells (Value.agg #[.int .i64 0, .int .i64 0]).cells k).toList ++ cur.toList.drop (o * 2 + k * 2)).toArray) := by
  have h := run_clear_rowk (P := Try.prog) w 69 160 ty _ Try.underlying69 zeroT one_zero g (o * 2) k dc cur 160 hg ho
  exact h
theorem set2_take (l : List Value) (i : Nat) (u v : Value) (h : i * 2 + 1 < l.length) : ((l.set (i * 2) u).set (i * 2 + 1) v).take ((i + 1) * 2) = l.take (i * 2) ++ [u, v] := by
  apply List.ext_getElem?
  intro q
  rw [List.getElem?_take, List.getElem?_append, List.length_take, Nat.min_eq_left (by omega), List.getElem?_take]
  by_cases h1 : q < i * 2
  · rw [if_pos (by omega), if_pos h1, if_pos h1, List.getElem?_set_ne (by omega), List.getElem?_set_ne (by omega)]
  · rw [if_neg h1]
    by_cases h2 : q = i * 2
    · subst h2
      rw [if_pos (by omega), List.getElem?_set_ne (by omega), List.getElem?_set_self (by omega)]
      simp
    · by_cases h3 : q = i * 2 + 1
      · subst h3
        rw [if_pos (by omega), List.getElem?_set_self (by rw [List.length_set]; omega), show i * 2 + 1 - i * 2 = 1 by omega]
        rfl
      · rw [if_neg (by omega)]
        symm
        rw [List.getElem?_eq_none_iff]
        simp
        omega
theorem without_take (k : Int) (L : List Tm) (j : Nat) (t : Tm) (h : L[j]? = some t) : without k (L.take (j + 1)) = without k (L.take j) ++ (if t.1 = k then [] else [t]) := by
  rw [List.take_add_one, h]
  unfold without
  rw [List.filter_append]
  congr 1
  by_cases ht : t.1 = k <;> simp [ht]
theorem without_len (k : Int) (L : List Tm) : (without k L).length ≤ L.length := List.length_filter_le _ _
/-- A deletion under way: j timers are looked at. -/
structure DelAt (W W' : World) (g c : Nat) (cur : Array Value) (L : List Tm) (k : Int) (i j : Nat) (cur' : Array Value) : Prop where
  hi : i = (without k (L.take j)).length
  hij : i < j
  hj : j ≤ L.length
  blk : W'.heap[g]? = some (.cells cur' 160 (0, 0))
  size : cur'.size = cur.size
  done : cur'.toList.take (i * 2) = tcells (without k (L.take j))
  rest : ∀ q, j * 2 ≤ q → cur'[q]? = cur[q]?
  grown : W.grownBy W' (some g)
theorem grown_below {w w' w2 : World} {r : Option Nat} (h : w.grownBy w' r) (hb : Below w'.heap.size w' w2) : w.grownBy w2 r :=
  ⟨hb.os.trans h.os, hb.tape.trans h.tape, hb.output.trans h.output, Nat.le_trans h.size hb.size, fun k hk hn => (hb.block k (Nat.lt_of_lt_of_le hk h.size)).trans (h.block k hk hn)⟩
theorem DelAt.skip {cur cur' : Array Value} {g c : Nat} {L : List Tm} {k : Int} {i j : Nat} (h : DelAt W W' g c cur L k i j cur') (hb : Below W'.heap.size W' W2) {t : Tm} (ht : L[j]? = some t) (hk : t.1 = k) : DelAt W W2 g c cur L k i (j + 1) cur' := by
  have e : without k (L.take (j + 1)) = without k (L.take j) := by rw [without_take k L j t ht, if_pos hk, List.append_nil]
  have hlt := (List.getElem?_eq_some_iff.1 ht).1
  exact ⟨by rw [e]; exact h.hi, by have := h.hij; omega, hlt, (hb.block g (Array.getElem?_eq_some_iff.1 h.blk).1).trans h.blk, h.size, by rw [e]; exact h.done, fun q hq => h.rest q (by omega), grown_below h.grown hb⟩
theorem DelAt.keep {cur cur' : Array Value} {g c : Nat} {L : List Tm} {k : Int} {i j : Nat} (h : DelAt W W' g c cur L k i j cur') (hsz : L.length * 2 ≤ cur.size) (hb : Below W'.heap.size W' W2) {t : Tm} (ht : L[j]? = some t) (hk : t.1 ≠ k) :
    DelAt W ((W2.setCell ⟨g, i * 2, none⟩ (.int .i64 t.1)).setCell ⟨g, i * 2 + 1, none⟩ (.int .i64 t.2)) g c cur L k (i + 1) (j + 1) ((cur'.setIfInBounds (i * 2) (.int .i64 t.1)).setIfInBounds (i * 2 + 1) (.int .i64 t.2)) := by
  have e : without k (L.take (j + 1)) = without k (L.take j) ++ [t] := by rw [without_take k L j t ht, if_neg hk]
  have hlt := (List.getElem?_eq_some_iff.1 ht).1
  have hij := h.hij
  have hs := h.size
  have hg2 : W2.heap[g]? = some (.cells cur' 160 (0, 0)) := (hb.block g (Array.getElem?_eq_some_iff.1 h.blk).1).trans h.blk
  have gr := grown_below h.grown hb
  refine ⟨by rw [e, List.length_append, ← h.hi]; rfl, by omega, hlt, blk_set (blk_set hg2 _ _) _ _, by simp [hs], ?_, fun q hq => ?_, ?_⟩
  · rw [Array.toList_setIfInBounds, Array.toList_setIfInBounds, set2_take _ _ _ _ (by rw [Array.length_toList]; omega), h.done, e, tcells_app]
    rfl
  · rw [Array.getElem?_setIfInBounds, if_neg (by omega), Array.getElem?_setIfInBounds, if_neg (by omega)]
    exact h.rest q (by omega)
  · exact ⟨gr.os, gr.tape, gr.output, by simpa using gr.size, fun q hq hn => (Below.heap_setCell _ ⟨g, i * 2 + 1, none⟩ _ q (fun e => hn (by rw [e]))).trans ((Below.heap_setCell W2 ⟨g, i * 2, none⟩ _ q (fun e => hn (by rw [e]))).trans (gr.block q hq hn))⟩
theorem DelAt.room {cur cur' : Array Value} {g c : Nat} {L : List Tm} {k : Int} {i j : Nat} (h : DelAt W W' g c cur L k i j cur') (hsz : L.length * 2 ≤ cur.size) : ∃ u0 u1, ∀ w2, Below W'.heap.size W' w2 →
    w2.cell? ⟨g, i * 2, none⟩ = some u0 ∧ w2.cell? ⟨g, i * 2 + 1, none⟩ = some u1 ∧ w2.frozen? ⟨g, i * 2, none⟩ = false ∧ w2.frozen? ⟨g, i * 2 + 1, none⟩ = false := by
  have hij := h.hij
  have hjL := h.hj
  have hs := h.size
  refine ⟨cur'[i * 2]'(by omega), cur'[i * 2 + 1]'(by omega), fun w2 hb => ?_⟩
  have hg2 : w2.heap[g]? = some (.cells cur' 160 (0, 0)) := (hb.block g (Array.getElem?_eq_some_iff.1 h.blk).1).trans h.blk
  refine ⟨?_, ?_, blk_frozen hg2 _, blk_frozen hg2 _⟩ <;> (rw [cell_of_row _ _ _ _ _ _ hg2]; exact Array.getElem?_eq_getElem _)
theorem DelAt.fin {cur cur' : Array Value} {g c : Nat} {L : List Tm} {k : Int} {i : Nat} (h : DelAt W W' g c cur L k i L.length cur') (hb : b ≤ g) (hc : cur.size = c * 2) (hL : L.length ≤ c) (hm : c ≤ maxLen) :
    RowAt (W'.setRow g (cur'.toList.take (i * 2) ++ (Builtin.zeroCells (Value.agg #[.int .i64 0, .int .i64 0]).cells (L.length - i)).toList ++ cur'.toList.drop (i * 2 + (L.length - i) * 2)).toArray) b (.slice (some ⟨g, 0, none⟩) (without k L).length c, without k L) ∧
    W.grownBy (W'.setRow g (cur'.toList.take (i * 2) ++ (Builtin.zeroCells (Value.agg #[.int .i64 0, .int .i64 0]).cells (L.length - i)).toList ++ cur'.toList.drop (i * 2 + (L.length - i) * 2)).toArray) (some g) := by
  have hi := h.hi
  have hd := h.done
  have hs := h.size
  have hij := h.hij
  rw [List.take_length] at hi hd
  have hz : (Builtin.zeroCells (Value.agg #[.int .i64 0, .int .i64 0]).cells (L.length - i)).toList.length = (L.length - i) * 2 := by
    rw [Array.length_toList, size_zeroCells]
    rfl
  refine ⟨⟨tcells_len _, .inr ⟨g, c, _, rfl, hb, setRow_heap W' g _ _ _ _ h.blk, ?_, hm, ?_, ?_⟩⟩, ⟨h.grown.os, h.grown.tape, h.grown.output, by rw [setRow_size]; exact h.grown.size, fun q hq hn => ?_⟩⟩
  · show (without k L).length ≤ c
    omega
  · simp only [List.size_toArray, List.length_append, List.length_take, List.length_drop, hz, Array.length_toList]
    omega
  · show List.take ((without k L).length * 2) _ = tcells (without k L)
    rw [← hi]
    simp only []
    rw [List.append_assoc, List.take_append_of_le_length (by rw [List.length_take, Array.length_toList]; omega), List.take_take, Nat.min_self]
    exact hd
  · rw [setRow_heap_ne _ _ _ _ (fun he => hn (by rw [he]))]
    exact h.grown.block q hq hn
end Go.Proofs.Ytakmcbakogjeeaa.Wh
