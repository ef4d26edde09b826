/- Parameters (layer 3): Default; no condition. -/
import Derived.Test.YtcidijmdndcdlaaDoorPr3
set_option linter.unusedVariables false
set_option linter.unusedSimpArgs false
namespace Go.Proofs.YtcidijmdndcdlaaDoor.Pr
open Go Go.RowKit Go.Proofs.YtcidijmdndcdlaaDoor.Pm
open Go.Proofs.YtcidijmdndcdlaaDoorW.PrintWords Go.Proofs.YtcidijmdndcdlaaDoorW.PrintLast Go.Proofs.YtcidijmdndcdlaaDoorW.PrintMore
variable {W W' : World} {g b : Nat} {p : Pm} {vo vf va : Value}
/-- The record with its first k numbers set. -/
def upto (k : Nat) : Pm := ⟨(List.range 12).map (fun i => if i < k then fnone i else 0), false, [], [], [], false, zeros, false⟩
theorem upto_sz (k : Nat) : Sz (upto k) := ⟨by simp [upto], by simp [upto, zeros]⟩
theorem upto_12 : upto 12 = dflt := by rfl
theorem upto_next {k : Nat} (hk : k < 12) : { upto k with n := (upto k).n.set k (fnone k) } = upto (k + 1) := by
  have hc : k = 0 ∨ k = 1 ∨ k = 2 ∨ k = 3 ∨ k = 4 ∨ k = 5 ∨ k = 6 ∨ k = 7 ∨ k = 8 ∨ k = 9 ∨ k = 10 ∨ k = 11 := by omega
  rcases hc with rfl | rfl | rfl | rfl | rfl | rfl | rfl | rfl | rfl | rfl | rfl | rfl <;> rfl
theorem dflt_sz : Sz dflt := upto_12 ▸ upto_sz 12
theorem alloc_size (w : World) (o : Obj) : (w.alloc o).heap.size = w.heap.size + 1 := by show (w.heap.push o).size = _; simp
theorem alloc_old (w : World) (o : Obj) (i : Nat) (h : i < w.heap.size) : (w.alloc o).heap[i]? = w.heap[i]? := by
  show (w.heap.push o)[i]? = w.heap[i]?
  rw [Array.getElem?_push, if_neg (Nat.ne_of_lt h)]
abbrev nilS : Value := .slice none 0 0
/-- A number of the struct is stored. -/
theorem PmAt.setn (h : PmAt W g p vo vf va) (hs : Sz p) {k : Nat} (hk : k < 12) (v : Int) : PmAt (W.setCell ⟨g, foff k, none⟩ (.int .i64 v)) g { p with n := p.n.set k v } vo vf va := by
  unfold PmAt
  rw [← row_setn hs vo vf va k hk v]
  exact heap_setCell_same W g _ _ _ _ h
theorem PmAt.free (h : PmAt W g p vo vf va) (i : Nat) : W.frozen? ⟨g, i, none⟩ = false := blk_frozen h i
/-- All zero. -/
abbrev zero34 : Array Value := #[.int .i64 0, .int .i64 0, .int .i64 0, .int .i64 0, .int .i64 0, .int .i64 0, .int .i64 0, .int .i64 0, .int .i64 0, .int .i64 0, .bool false, .int .i64 0, .int .i64 0, .slice none 0 0, .slice none 0 0, .slice none 0 0, .bool false, .int .u8 0, .int .u8 0, .int .u8 0, .int .u8 0, .int .u8 0, .int .u8 0, .int .u8 0, .int .u8 0, .int .u8 0, .int .u8 0, .int .u8 0, .int .u8 0, .int .u8 0, .int .u8 0, .int .u8 0, .int .u8 0, .bool false]
theorem zero34_is : zero34 = pmRow (upto 0) nilS nilS nilS := by rfl
theorem params_size : (Tryd.prog.info? 25).map (·.size) = some 34 := by kernel_rfl
/-- Row g0 is all zero, and no other than g. -/
structure Dst (W0 W : World) (g0 g b k : Nat) : Prop where
  bel : Below W0.heap.size W0 W
  pm : PmAt W g (upto k) nilS nilS nilS
  out : W.heap[g0]? = some (.cells zero34 25 (0, 0))
  fld : FldAt W b g
  ne : g0 ≠ g
  ne2 : b ≠ g
  l0 : W0.heap.size ≤ g0
  l1 : W0.heap.size ≤ g
theorem Dst.below {W0 W W' : World} {g0 g b k : Nat} (h : Dst W0 W g0 g b k) (hb : Below W.heap.size W W') : Dst W0 W' g0 g b k :=
  ⟨Bl.then h.bel hb, h.pm.below hb h.pm.lt, (hb.block g0 (Array.getElem?_eq_some_iff.1 h.out).1).trans h.out, h.fld.below hb h.fld.lt, h.ne, h.ne2, h.l0, h.l1⟩
theorem Dst.set {W0 W : World} {g0 g b k : Nat} (h : Dst W0 W g0 g b k) (hk : k < 12) : Dst W0 (W.setCell ⟨g, foff k, none⟩ (.int .i64 (fnone k))) g0 g b (k + 1) :=
  ⟨h.bel.setCell (p := ⟨g, foff k, none⟩) h.l1 _, by rw [← upto_next hk]; exact h.pm.setn (upto_sz k) hk _, (Below.heap_setCell W ⟨g, foff k, none⟩ _ g0 h.ne).trans h.out, (Below.heap_setCell W ⟨g, foff k, none⟩ _ b h.ne2).trans h.fld, h.ne, h.ne2, h.l0, h.l1⟩
set_option maxRecDepth 100000 in
set_option maxHeartbeats 3200000 in
theorem default_s : Calls Tryd.prog 9 #[] W fun e w' =>
    e = .returned (.agg (pmRow dflt nilS nilS nilS)) ∧ Below W.heap.size W w' := by
  have HW1 : Aside0 (∀ b w1, FldAt w1 b (W.heap.size + 1) → W.heap.size + 1 + 1 ≤ b → Below ((W.alloc (.cells zero34 25 (0, 0))).alloc (.cells zero34 25 (0, 0))).heap.size ((W.alloc (.cells zero34 25 (0, 0))).alloc (.cells zero34 25 (0, 0))) w1 → Dst W w1 W.heap.size (W.heap.size + 1) b 0) := ⟨fun b w1 hf hl hb => by
    have hz : ((W.alloc (.cells zero34 25 (0, 0))).alloc (.cells zero34 25 (0, 0))).heap.size = W.heap.size + 1 + 1 := by rw [alloc_size, alloc_size]
    have e1 : ((W.alloc (.cells zero34 25 (0, 0))).alloc (.cells zero34 25 (0, 0))).heap[W.heap.size + 1]? = some (.cells zero34 25 (0, 0)) := by
      have := heap_alloc_new (W.alloc (.cells zero34 25 (0, 0))) (.cells zero34 25 (0, 0))
      rwa [show (W.alloc (.cells zero34 25 (0, 0))).heap.size = W.heap.size + 1 from alloc_size _ _] at this
    have e0 : ((W.alloc (.cells zero34 25 (0, 0))).alloc (.cells zero34 25 (0, 0))).heap[W.heap.size]? = some (.cells zero34 25 (0, 0)) := by
      rw [alloc_old _ _ _ (by rw [alloc_size]; omega)]
      exact heap_alloc_new W _
    exact ⟨Bl.then (Bl.alloc (Bl.alloc (Below.refl _ W) _) _) hb, (hb.block _ (by omega)).trans e1, (hb.block _ (by omega)).trans e0, hf, by omega, by omega, by omega, by omega⟩⟩
  go_enter Tryd.func9, Tryd.ntmps9
  go_wp2_with (first
    | ((with_reducible refine gate_st (t := 25) (p := .tmp 1) (v := .tmp 4) rfl ?_); refine wpList_store_row rfl 25 (.tmp 1) (.tmp 4) rfl (W.heap.size + 1) zero34 rfl rfl 25 zero34 (heap_alloc2_new W _ _) params_size rfl (by kernel_rfl) ?_; rw [← alloc_size W (.cells zero34 25 (0, 0)), World.setRow_alloc_new])
    | (go_at_call 19; (with_reducible refine (fields_s _).mono ?_); rintro e w1 ⟨b, rfl, hf, hlt, hb⟩; have HD := Aside0.mk (HW1.out b w1 hf (by rw [alloc_size, alloc_size] at hlt; exact hlt) hb); clear hf hb hlt HW1))
  obtain ⟨g, hg⟩ : ∃ g, W.heap.size + 1 = g := ⟨_, rfl⟩
  rw [hg] at HD ⊢
  clear hg
  obtain ⟨g0, hg0⟩ : ∃ g0, W.heap.size = g0 := ⟨_, rfl⟩
  have HG := Aside0.mk hg0
  rw [hg0] at HD
  simp only [hg0]
  clear hg0
  go_loopw [7] (fun iv W' => ∃ j : Nat, j ≤ 12 ∧ iv = .int .i64 j ∧ Dst W W' g0 g b j) (fun iv _ => 12 - (intOf iv).toNat)
  case atStart => exact ⟨0, by omega, rfl, HD.out⟩
  case round =>
    obtain ⟨j, hj, rfl, hd⟩ := hrel
    have HE := Aside0.mk hd
    clear hd HD
    by_cases hlt : j < 12
    · obtain ⟨c0, c1, c2, c3, c4⟩ := HE.out.fld.cells hlt
      have HX : Aside0 (∀ X, Dst W (wr.alloc X) g0 g b j) := ⟨fun X => HE.out.below (Bl.alloc (Below.refl _ _) X)⟩
      have hc : ∀ X, (wr.alloc X).cell? ⟨g, foff j, none⟩ = some (.int .i64 ((upto j).nk j)) := fun X => (HX.out X).pm.num (upto_sz j) hlt
      have hfz : ∀ X, (wr.alloc X).frozen? ⟨g, foff j, none⟩ = false := fun X => (HX.out X).pm.free _
      go_wp2_with fail
      go_roundw
      case rel => exact ⟨j + 1, by omega, by go_num, (HX.out _).set hlt⟩
      case measure => simp [intOf]; omega
    · obtain rfl : j = 12 := by omega
      go_wp2_with (first
        | ((with_reducible refine gate_ld (t := 25) rfl ?_); refine wpList_load_row rfl 25 (.tmp 1) rfl g rfl 25 _ (0, 0) _ HE.out.pm Tryd.underlying25 rfl (by rw [row_size (upto_sz 12)]; exact params_size) ?_)
        | ((with_reducible refine gate_st (t := 25) (p := .tmp 0) (v := .tmp 17) rfl ?_); refine wpList_store_row rfl 25 (.tmp 0) (.tmp 17) rfl g0 (pmRow (upto 12) nilS nilS nilS) rfl rfl 25 zero34 HE.out.out (by rw [row_size (upto_sz 12)]; exact params_size) (by rw [row_size (upto_sz 12)]; rfl) (row_one (upto_sz 12) rfl rfl rfl) ?_))
      refine bodyPost_ret (results_cell_row rfl _ _ g0 25 (pmRow (upto 12) nilS nilS nilS) (0, 0) _ rfl (setRow_heap _ g0 _ _ _ _ HE.out.out) Tryd.underlying25 rfl (by rw [row_size (upto_sz 12)]; exact params_size)) rfl ?_
      exact ⟨by rw [upto_12], ⟨HE.out.bel.os, HE.out.bel.tape, HE.out.bel.output, by rw [size_setRow]; exact HE.out.bel.size, fun k hk => (setRow_other _ g0 k _ (by have := HE.out.l0; omega)).trans (HE.out.bel.block k hk)⟩⟩
end Go.Proofs.YtcidijmdndcdlaaDoor.Pr
