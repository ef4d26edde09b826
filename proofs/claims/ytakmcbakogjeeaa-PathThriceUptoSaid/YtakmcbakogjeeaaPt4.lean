/- Paths (layer 24): Ask; no condition. -/
import Derived.Test.YtakmcbakogjeeaaPt3
import Derived.Maps.AppendAt
set_option linter.unusedVariables false
set_option linter.unusedSimpArgs false
namespace Go.Proofs.Ytakmcbakogjeeaa.Pt
open Go Go.RowKit Go.Maps Go.Proofs.Ytakmcbakogjeeaa.Rm
open Go.Proofs.YtakmcbakogjeeaaW.PrintWords Go.Proofs.YtakmcbakogjeeaaW.PrintLast Go.Proofs.YtakmcbakogjeeaaW.PrintMore
variable {W W' : World} {b p m n : Nat} {used : Int} {K A B : List Ent} {x x' : Ent}
/-- The value of eight bytes. -/
def agg8 (d0 d1 d2 d3 d4 d5 d6 d7 : Int) : Value := .agg #[.int .u8 d0, .int .u8 d1, .int .u8 d2, .int .u8 d3, .int .u8 d4, .int .u8 d5, .int .u8 d6, .int .u8 d7]
def data8 (d0 d1 d2 d3 d4 d5 d6 d7 : Int) : Array Value := #[.int .u8 d0, .int .u8 d1, .int .u8 d2, .int .u8 d3, .int .u8 d4, .int .u8 d5, .int .u8 d6, .int .u8 d7]
def nine (d0 d1 d2 d3 d4 d5 d6 d7 u : Int) : Array Value := #[.int .u8 d0, .int .u8 d1, .int .u8 d2, .int .u8 d3, .int .u8 d4, .int .u8 d5, .int .u8 d6, .int .u8 d7, .int .i64 u]
theorem shape {base e size : Nat} {v : Value} {N : Nat} {us : List Value} (h : W.ownsRow base e size v N us) : ∃ G c, v = .slice G N c := by
  rcases h.2 with ⟨rfl, rfl⟩ | ⟨g, cap, cur, rfl, _⟩
  · exact ⟨none, 0, rfl⟩
  · exact ⟨_, _, rfl⟩
theorem infoO : (Try.prog.info? 176).map (fun i => (i.zero, i.size, i.bytes)) = some (some (.agg #[.int .u8 0, .int .u8 0, .int .u8 0, .int .u8 0, .int .u8 0, .int .u8 0, .int .u8 0, .int .u8 0, .int .i64 0]), 9, 16) := by kernel_rfl
theorem run_add9 {v : Value} {L : List Oz} (h : W.ownsRow b 176 9 v L.length (ocells L)) (hbw : b ≤ W.heap.size) (hl : L.length + 1 ≤ 1099511627776) (d0 d1 d2 d3 d4 d5 d6 d7 u : Int) : ∃ v1 w1,
    (∀ ty, (Builtin.append_ #[170, 170] ty #[v, .slice (some ⟨W.heap.size, 0, none⟩) 1 1]).run Try.prog (W.drew.alloc (.cells #[.int .u8 d0, .int .u8 d1, .int .u8 d2, .int .u8 d3, .int .u8 d4, .int .u8 d5, .int .u8 d6, .int .u8 d7, .int .i64 u] 176)) = .ok v1 w1) ∧
    w1.ownsRow b 176 9 v1 (L ++ [([d0, d1, d2, d3, d4, d5, d6, d7], u)]).length (ocells (L ++ [([d0, d1, d2, d3, d4, d5, d6, d7], u)])) ∧ W.grownBy w1 v.ownBlock ∧ (v1.ownBlock = v.ownBlock ∨ v1.ownBlock = some (W.heap.size + 1)) := by
  obtain ⟨i0, hi, hz0, hz1, hz2⟩ := info_parts infoO
  have hnew : ∀ j w, [Value.int .u8 d0, .int .u8 d1, .int .u8 d2, .int .u8 d3, .int .u8 d4, .int .u8 d5, .int .u8 d6, .int .u8 d7, .int .i64 u][j]? = some w → (W.drew.alloc (.cells #[.int .u8 d0, .int .u8 d1, .int .u8 d2, .int .u8 d3, .int .u8 d4, .int .u8 d5, .int .u8 d6, .int .u8 d7, .int .i64 u] 176)).cell? ((⟨W.heap.size, 0, none⟩ : Addr).add j) = some w := fun j w hu => by
    have hb := heap_alloc_new W.drew (.cells #[.int .u8 d0, .int .u8 d1, .int .u8 d2, .int .u8 d3, .int .u8 d4, .int .u8 d5, .int .u8 d6, .int .u8 d7, .int .i64 u] 176 (0, 0))
    rw [show W.drew.heap.size = W.heap.size from rfl] at hb
    rw [add_at, cell_of_row _ _ _ _ _ _ hb, Nat.zero_add]
    simpa using hu
  have hd : W.drew.ownsRow b 176 9 v L.length (ocells L) := own_move h (fun k _ => rfl)
  obtain ⟨v1, w1, hr, h1, h2, _, h3⟩ := run_append_own_at (P := Try.prog) (w := W.drew.alloc (.cells #[.int .u8 d0, .int .u8 d1, .int .u8 d2, .int .u8 d3, .int .u8 d4, .int .u8 d5, .int .u8 d6, .int .u8 d7, .int .i64 u] 176)) b 170 170 176 i0 _ 9 16 Try.underlying170 hi hz0 hz1 hz2 rfl (by decide) v L.length (ocells L) (hd.alloc _) ⟨W.heap.size, 0, none⟩ 1 1 _ rfl hnew
    (fun u hu => by simp only [List.mem_cons, List.not_mem_nil, or_false] at hu; rcases hu with rfl | rfl | rfl | rfl | rfl | rfl | rfl | rfl | rfl <;> rfl) (by unfold maxLen; omega) (by omega) (by simp; omega)
  refine ⟨v1, w1, fun ty => hr, ?_, ?_, ?_⟩
  · rw [List.length_append, List.length_singleton]
    have e : ocells (L ++ [([d0, d1, d2, d3, d4, d5, d6, d7], u)]) = ocells L ++ [Value.int .u8 d0, .int .u8 d1, .int .u8 d2, .int .u8 d3, .int .u8 d4, .int .u8 d5, .int .u8 d6, .int .u8 d7, .int .i64 u] := by
      unfold ocells
      rw [List.flatMap_append]
      rfl
    rw [e]
    exact h1
  · exact ⟨h2.os, h2.tape, h2.output, Nat.le_trans (by simp) h2.size, fun k hk hn => (h2.block k (by simp; omega) hn).trans (Below.heap_alloc W.drew _ k hk)⟩
  · simpa using h3
/-- A path's challenges turned: the row written (in its own block, or anew), then its head. -/
theorem PtAt.row (h : PtAt W b p m n used (A ++ x :: B)) (hbw : b ≤ W.heap.size) {w1 : World} {v1 : Value} {op1 : List Oz} (hg : W.grownBy w1 x.v.ownBlock) (hr : w1.ownsRow b 176 9 v1 op1.length (ocells op1))
    (ho : v1.ownBlock = x.v.ownBlock ∨ v1.ownBlock = none ∨ ∃ k, v1.ownBlock = some k ∧ W.heap.size ≤ k) (hok : ∀ o ∈ op1, o.1.length = 8) :
    PtAt (w1.setCell ⟨x.g, 3, none⟩ v1) b p m n used (A ++ { x with v := v1, op := op1 } :: B) ∧ Lf W (w1.setCell ⟨x.g, 3, none⟩ v1) b ∧ w1.heap[x.g]? = some (.cells x.cells 172 (0, 0)) := by
  have hx := h.one x (by simp)
  have hty : ∀ k, x.v.ownBlock = some k → b ≤ k ∧ ∃ cs, W.heap[k]? = some (.cells cs 176 (0, 0)) := fun k hk => ⟨by
    rcases hx.row.2 with ⟨e, _⟩ | ⟨g', c, cur, e, hbb, _⟩ <;> rw [e] at hk <;> simp [Value.ownBlock] at hk
    omega, own_typed hx.row k hk⟩
  have hf1 : ∀ k, k < W.heap.size → (∀ cs, W.heap[k]? ≠ some (.cells cs 176 (0, 0))) → w1.heap[k]? = W.heap[k]? := fun k hk hn => hg.block k hk (fun e => by
    obtain ⟨_, cs, hc⟩ := hty k e.symm
    exact hn cs hc)
  have hxg1 : w1.heap[x.g]? = some (.cells x.cells 172 (0, 0)) := (hf1 x.g hx.lt (fun cs hc => by rw [hx.blk] at hc; injection hc with hc; injection hc with _ hc; exact absurd hc (by decide))).trans hx.blk
  have hf2 : ∀ k, k ≠ x.g → (w1.setCell ⟨x.g, 3, none⟩ v1).heap[k]? = w1.heap[k]? := fun k hk => Below.heap_setCell w1 ⟨x.g, 3, none⟩ v1 k hk
  have hkv : kvs (A ++ { x with v := v1, op := op1 } :: B) = kvs (A ++ x :: B) := by simp [kvs]
  obtain ⟨n1, n2⟩ := apart_mid (R := Ap) ap_symm h.ng
  have hb1 : Below b W w1 := ⟨hg.os, hg.tape, hg.output, hg.size, fun k hk => hg.block k (by omega) (fun e => by have := (hty k e.symm).1; omega)⟩
  have hmp1 : w1.ownsMap Try.prog 3 rawElem m n (mapD (kvs (A ++ x :: B))) := h.mp.kept hg (fun e => by
    obtain ⟨_, cs, hc⟩ := hty m e.symm
    exact map_ne h.mp hc rfl)
  have hap : ∀ y : Ent, y.g < W.heap.size → (∀ k, y.v.ownBlock = some k → k < W.heap.size) → Ap x y → Ap { x with v := v1, op := op1 } y := fun y _ hylt hxy => ⟨hxy.1, fun k hk hk2 => by
    rcases ho with e | e | ⟨k2, e, hlt⟩
    · exact hxy.2 k (e ▸ hk) hk2
    · rw [e] at hk; cases hk
    · rw [e] at hk
      injection hk with hk
      have := hylt k hk2
      omega⟩
  have hlts : ∀ y ∈ A ++ x :: B, ∀ k, y.v.ownBlock = some k → k < W.heap.size := fun y hy k hk => by
    obtain ⟨cs, hc⟩ := own_typed (h.one y hy).row k hk
    exact (Array.getElem?_eq_some_iff.1 hc).1
  refine ⟨⟨h.hp, h.hm, ?_, ?_, fun y hy => ?_, ?_⟩, ⟨hb1.setCell (p := ⟨x.g, 3, none⟩) hx.hg v1, fun k cs t hk a1 a2 => (hf2 k (ty_ne hk hx.blk a1)).trans (hf1 k (Array.getElem?_eq_some_iff.1 hk).1 (fun cs' hc => by rw [hk] at hc; injection hc with hc; injection hc with _ hc; exact a2 hc))⟩, hxg1⟩
  · refine (hf2 p (ty_ne h.blk hx.blk (by decide))).trans ((hf1 p h.lt (fun cs hc => ?_)).trans h.blk)
    rw [h.blk] at hc
    injection hc with hc
    injection hc with _ hc
    exact absurd hc (by decide)
  · rw [hkv]
    exact hmp1.setCell (a := ⟨x.g, 3, none⟩) (map_ne hmp1 hxg1) v1
  · have far : y ∈ A ∨ y ∈ B → OneAt (w1.setCell ⟨x.g, 3, none⟩ v1) b y := fun hy => by
      have hym : y ∈ A ++ x :: B := by rcases hy with hy | hy <;> simp [hy]
      have hy1 := h.one y hym
      have hya : Ap y x := by
        rcases hy with hy | hy
        · exact n1 y hy
        · exact n2 y hy
      refine ⟨hy1.hg, (hf2 y.g hya.1).trans ((hf1 y.g hy1.lt (fun cs hc => ?_)).trans hy1.blk), own_move hy1.row (fun k hk => ?_), hy1.ok, hy1.c0, hy1.c1, hy1.s0, hy1.s1⟩
      · rw [hy1.blk] at hc
        injection hc with hc
        injection hc with _ hc
        exact absurd hc (by decide)
      · obtain ⟨cs, hc⟩ := own_typed hy1.row k hk
        exact (hf2 k (ty_ne hc hx.blk (by decide))).trans (hg.block k (hlts y hym k hk) (fun e => hya.2 k hk e.symm))
    rcases List.mem_append.1 hy with hy | hy
    · exact far (.inl hy)
    · rcases List.mem_cons.1 hy with e | hy
      · subst e
        refine ⟨hx.hg, blk_set hxg1 3 v1, own_move hr (fun k hk => hf2 k ?_), hok, hx.c0, hx.c1, hx.s0, hx.s1⟩
        obtain ⟨cs, hc⟩ := own_typed hr k hk
        exact ty_ne hc hxg1 (by decide)
      · exact far (.inr hy)
  · refine apart_swap (R := Ap) h.ng (fun y hy hr => ?_) (fun y hy hr => ?_)
    · exact ap_symm _ _ (hap y (h.one y (by simp [hy])).lt (hlts y (by simp [hy])) (ap_symm _ _ hr))
    · exact hap y (h.one y (by simp [hy])).lt (hlts y (by simp [hy])) hr
end Go.Proofs.Ytakmcbakogjeeaa.Pt
