/- Boxes (layer 6): Put in general; no condition. -/
import Derived.Test.YtakmcbakogjeeaaIb3
import Derived.Test.YtakmcbakogjeeaaIb4
set_option linter.unusedVariables false
set_option linter.unusedSimpArgs false
namespace Go.Proofs.Ytakmcbakogjeeaa.Ib
open Go Go.RowKit Go.Maps Go.Proofs.Ytakmcbakogjeeaa.Rm
open Go.Proofs.YtakmcbakogjeeaaW.PrintWords Go.Proofs.YtakmcbakogjeeaaW.PrintLast Go.Proofs.YtakmcbakogjeeaaW.PrintMore
variable {W W' W2 : World} {b g m n : Nat} {D : Nat → Prop} {h : Hd} {kv : KV}
theorem BoxAt.tight (x : BoxAt W b g m n h kv) : BoxAt W b g m kv.length h kv := ⟨x.hg, x.hm, x.blk, Rm.tight x.mp⟩
/-- So many pieces at most. -/
theorem okP_few {lim : Int} : ∀ {P : List Pc} {pl : Int}, OkP pl P → pl ≤ lim → (∀ p ∈ P, p.1 + p.2.length ≤ lim) → (P.length : Int) ≤ lim - pl
  | [], pl, _, h, _ => by simp; omega
  | p :: r, pl, ⟨h1, h2, h3⟩, h, hl => by
    have hlen : 0 < p.2.length := List.length_pos_iff.2 h2
    have h4 := hl p List.mem_cons_self
    have := okP_few h3 h4 (fun q hq => hl q (List.mem_cons_of_mem _ hq))
    rw [List.length_cons]
    push_cast
    omega
theorem okP_drop : ∀ {P : List Pc} {pl : Int} (k : Nat), OkP pl P → OkP pl (P.drop k)
  | [], _, _, _ => by simp [OkP]
  | p :: r, pl, 0, h => h
  | p :: r, pl, k + 1, ⟨h1, h2, h3⟩ => (okP_drop k h3).mono (by omega)
/-- All but the map and one variable lies as it lay. -/
structure Frm (W W' : World) (m ab : Nat) : Prop where
  os : W'.os = W.os
  tape : W'.tape = W.tape
  output : W'.output = W.output
  size : W.heap.size ≤ W'.heap.size
  block : ∀ k, k < W.heap.size → k ≠ m → k ≠ ab → W'.heap[k]? = W.heap[k]?
theorem Frm.refl (W : World) (m ab : Nat) : Frm W W m ab := ⟨rfl, rfl, rfl, Nat.le_refl _, fun _ _ _ _ => rfl⟩
theorem Frm.then {ab : Nat} (h : Frm W W' m ab) (hb : Below W'.heap.size W' W2) : Frm W W2 m ab := ⟨hb.os.trans h.os, hb.tape.trans h.tape, hb.output.trans h.output, Nat.le_trans h.size hb.size, fun k hk h1 h2 => (hb.block k (Nat.lt_of_lt_of_le hk h.size)).trans (h.block k hk h1 h2)⟩
theorem Frm.butM {ab : Nat} (h : Frm W W' m ab) (hb : ButM W' W2 m) : Frm W W2 m ab := ⟨hb.os.trans h.os, hb.tape.trans h.tape, hb.output.trans h.output, Nat.le_trans h.size hb.size, fun k hk h1 h2 => (hb.block k (Nat.lt_of_lt_of_le hk h.size) h1).trans (h.block k hk h1 h2)⟩
theorem Frm.set {ab : Nat} (h : Frm W W' m ab) (v : Value) : Frm W (W'.setCell ⟨ab, 0, none⟩ v) m ab := ⟨h.os, h.tape, h.output, by simpa [World.setCell] using h.size, fun k hk h1 h2 => (Below.heap_setCell W' ⟨ab, 0, none⟩ v k h2).trans (h.block k hk h1 h2)⟩
/-- The parts of a Put under way: k pieces are looked at; the old ones behind them lie as they lay. -/
def PutRel (Wa : World) (D : Nat → Prop) (b g m ab : Nat) (h : Hd) (kv : KV) (P : List Pc) (data : List Int) (off at0 e : Int) (iv : Value) (W : World) : Prop :=
  ∃ (k : Nat) (A : KV) (PA : List Pc) (a : Int) (n : Nat), k ≤ kv.length ∧ iv = .int .i64 k ∧ BoxAt W b g m n h (A ++ kv.drop k) ∧ n ≤ kv.length + k ∧ Pcs W D A PA ∧ Pcs W D (kv.drop k) (P.drop k) ∧ (∀ p ∈ A, p.1 < a) ∧ at0 ≤ a ∧
    fill data off P at0 e = PA ++ fill data off (P.drop k) a e ∧ Boxed W ab 3 (.int .i64 a) ∧ Frm Wa W m ab
/-- What a Put leaves. -/
structure PutEnd (Wa W : World) (D : Nat → Prop) (b g m ab : Nat) (h : Hd) (Q : List Pc) : Prop where
  box : ∃ kv' n, BoxAt W b g m n h kv' ∧ Pcs W D kv' Q
  frm : Frm Wa W m ab
theorem fill_nil (data : List Int) (off a e : Int) : fill data off [] a e = gap data off a e := rfl
theorem gap_some {data : List Int} {off a e : Int} (hh : e > a) : gap data off a e = [(a, seg data off a e)] := by unfold gap; rw [if_pos hh]
theorem gap_none {data : List Int} {off a e : Int} (hh : ¬ e > a) : gap data off a e = [] := by unfold gap; rw [if_neg hh]
theorem fill_skip {data : List Int} {off a e : Int} {p : Pc} {r : List Pc} (c : p.1 + p.2.length ≤ a) : fill data off (p :: r) a e = p :: fill data off r a e := by rw [fill, if_pos c]
theorem fill_stop {data : List Int} {off a e : Int} {p : Pc} {r : List Pc} (c : ¬ p.1 + p.2.length ≤ a) (c2 : p.1 ≥ e) : fill data off (p :: r) a e = gap data off a e ++ p :: r := by rw [fill, if_neg c, if_pos c2]
theorem fill_go {data : List Int} {off a e : Int} {p : Pc} {r : List Pc} (c : ¬ p.1 + p.2.length ≤ a) (c2 : ¬ p.1 ≥ e) : fill data off (p :: r) a e = gap data off a p.1 ++ p :: fill data off r (max a (p.1 + p.2.length)) e := by rw [fill, if_neg c, if_neg c2]
theorem own_at {base k e N : Nat} {v u : Value} {us : List Value} (ho : W.ownsRow base e 1 v N us) (hu : us[k]? = some u) : ∃ gs c, v = .slice (some ⟨gs, 0, none⟩) N c ∧ base ≤ gs ∧ gs < W.heap.size ∧ (∃ cs, W.heap[gs]? = some (.cells cs e (0, 0))) ∧ N ≤ c ∧ W.cell? ⟨gs, k, none⟩ = some u := by
  have hlt := (List.getElem?_eq_some_iff.1 hu).1
  have hl := ho.1
  rcases ho.2 with ⟨hv, h0⟩ | ⟨g', c, cur, hv, hbb, hg, hnc, hcm, hcs, hx⟩
  · omega
  · refine ⟨g', c, hv, hbb, (Array.getElem?_eq_some_iff.1 hg).1, ⟨cur, hg⟩, hnc, ?_⟩
    rw [cell_of_row W g' _ _ _ _ hg]
    rw [← hx, List.getElem?_take] at hu
    split at hu
    · rw [← Array.getElem?_toList]; exact hu
    · cases hu
theorem zeroS (w : World) : (zeroValue 22).run Try.prog w = .ok (.slice none 0 0) w := by kernel_rfl
theorem pcs_keys : ∀ {kv : KV} {P : List Pc}, Pcs W D kv P → kv.map (·.1) = P.map (·.1)
  | [], [], _ => rfl
  | p :: kv, q :: P, ⟨h1, _, h3⟩ => by rw [List.map_cons, List.map_cons, h1, pcs_keys h3]
  | [], _ :: _, h => h.elim
  | _ :: _, [], h => h.elim
theorem okP_behind : ∀ {P : List Pc} {pl : Int} {k : Nat} {q : Pc}, OkP pl P → P[k]? = some q → pl ≤ q.1 ∧ q.2 ≠ [] ∧ OkP (q.1 + q.2.length) (P.drop (k + 1))
  | [], _, _, _, _, h => by simp at h
  | p :: r, pl, 0, q, ⟨h1, h2, h3⟩, h => by
    have e : p = q := by simpa using h
    subst e
    exact ⟨h1, h2, by simpa using h3⟩
  | p :: r, pl, k + 1, q, ⟨h1, h2, h3⟩, h => by
    obtain ⟨a1, a2, a3⟩ := okP_behind h3 (by simpa using h)
    exact ⟨by omega, a2, by simpa using a3⟩
theorem okP_keys : ∀ {P : List Pc} {pl : Int}, OkP pl P → ∀ x ∈ P, pl ≤ x.1
  | [], _, _, x, hx => by cases hx
  | p :: r, pl, ⟨h1, h2, h3⟩, x, hx => by
    rcases List.mem_cons.1 hx with rfl | hx
    · exact h1
    · have := okP_keys h3 x hx; omega
theorem pcs_ge {lo : Int} {kv : KV} {P : List Pc} (h : Pcs W D kv P) (hk : ∀ x ∈ P, lo ≤ x.1) : ∀ p ∈ kv, lo ≤ p.1 := fun p hp => by
  have h1 : p.1 ∈ P.map (·.1) := by rw [← pcs_keys h]; exact List.mem_map.2 ⟨p, hp, rfl⟩
  obtain ⟨x, hx, he⟩ := List.mem_map.1 h1
  have := hk x hx
  omega
theorem lookS (hm : W.ownsMap Try.prog 3 rawElem m n (mapD kv)) {k : Int} {v : Value} (hk : (k, v) ∈ kv) (hwf : (Lit.int .i64 k).wf = true) : (Instr.lookup 42 (.map (some m)) (.int .i64 k) false).run Try.prog W = .ok v W := by
  have h1 := Rm.look hm law Try.underlying42 (zeroS W) (keyInt Try.underlying3 hwf)
  rw [((rising_of hm law).mem_get).1 hk] at h1
  exact h1
theorem Frm.bel {ab : Nat} (h : Frm W W' m ab) (hm : b ≤ m) (ha : b ≤ ab) (hs : b ≤ W.heap.size) : Below b W W' := ⟨h.os, h.tape, h.output, h.size, fun k hk => h.block k (by omega) (by omega) (by omega)⟩
theorem drop_at {α : Type} {M : List α} {k : Nat} {y : α} (h : M[k]? = some y) : M.drop k = y :: M.drop (k + 1) := by
  obtain ⟨hk, he⟩ := List.getElem?_eq_some_iff.1 h
  rw [List.drop_eq_getElem_cons hk, he]
theorem BoxAt.far {ab : Nat} (x : BoxAt W b g m n h kv) {v : Value} (hb : Boxed W ab 3 v) (u : Value) : BoxAt (W.setCell ⟨ab, 0, none⟩ u) b g m n h kv :=
  ⟨x.hg, x.hm, (Below.heap_setCell W ⟨ab, 0, none⟩ u g (by rintro rfl; have h1 := x.blk; rw [show W.heap[g]? = _ from hb] at h1; injection h1 with h1; injection h1 with _ h1; exact absurd h1 (by decide))).trans x.blk, x.mp.setCell (a := ⟨ab, 0, none⟩) (map_ne_cells x.mp hb) u⟩
theorem Pcs.far {ab : Nat} {kv : KV} {P : List Pc} (h : Pcs W D kv P) {v : Value} (hb : Boxed W ab 3 v) (u : Value) : Pcs (W.setCell ⟨ab, 0, none⟩ u) D kv P :=
  h.move (fun k cs hk => Below.heap_setCell W ⟨ab, 0, none⟩ u k (by rintro rfl; rw [show W.heap[k]? = _ from hb] at hk; injection hk with hk; injection hk with _ hk; exact absurd hk (by decide)))
/-- What a Put leaves of the numbers. -/
def putH (h : Hd) (off : Int) (len : Nat) (fin : Bool) : Hd := if fin then { h with reach := max h.reach (off + len), known := true, final := off + len } else { h with reach := max h.reach (off + len) }
end Go.Proofs.Ytakmcbakogjeeaa.Ib
