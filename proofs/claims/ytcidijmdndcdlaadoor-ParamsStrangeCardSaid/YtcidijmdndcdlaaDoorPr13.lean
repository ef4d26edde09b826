/- Parameters (layer 3): Refs, what the law reads of a record; no condition. -/
import Derived.Test.YtcidijmdndcdlaaDoorPr12
set_option linter.unusedVariables false
set_option linter.unusedSimpArgs false
namespace Go.Proofs.YtcidijmdndcdlaaDoor.Pr
open Go Go.RowKit Go.Maps Go.Proofs.YtcidijmdndcdlaaDoor.Pm Go.Proofs.YtcidijmdndcdlaaDoor.Rm Go.Proofs.YtcidijmdndcdlaaDoor.OctM
open Go.Proofs.YtcidijmdndcdlaaDoorW.PrintWords Go.Proofs.YtcidijmdndcdlaaDoorW.PrintLast Go.Proofs.YtcidijmdndcdlaaDoorW.PrintMore
variable {W W' W0 : World} {g b B m n : Nat} {p : Pm} {vo vf va : Value} {kv : KV} {came : List Int}
theorem still_s (a : Bool) : Calls Tryd.prog 24 #[.bool a] W fun e w' => e = .returned (.int .i64 (if a then 1 else 0)) ∧ W = w' := by
  cases a with
  | true =>
    go_enter Tryd.func24, Tryd.ntmps24
    go_wp2
    go_ret
    exact ⟨rfl, rfl⟩
  | false =>
    go_enter Tryd.func24, Tryd.ntmps24
    go_wp2
    go_ret
    exact ⟨rfl, rfl⟩
abbrev zero68 : Array Value := #[.int .i64 0, .int .i64 0, .int .i64 0, .int .i64 0, .int .i64 0, .int .i64 0, .int .i64 0, .int .i64 0, .int .i64 0, .int .i64 0, .int .i64 0, .int .i64 0, .int .i64 0, .int .i64 0, .int .i64 0, .int .i64 0, .int .i64 0, .int .i64 0, .int .i64 0, .int .i64 0, .int .i64 0, .int .i64 0, .int .i64 0, .int .i64 0, .int .i64 0, .int .i64 0, .int .i64 0, .int .i64 0, .int .i64 0, .int .i64 0, .int .i64 0, .int .i64 0, .int .i64 0, .string ByteArray.empty, .string ByteArray.empty, .string ByteArray.empty, .string ByteArray.empty, .string ByteArray.empty, .string ByteArray.empty, .string ByteArray.empty, .string ByteArray.empty, .string ByteArray.empty, .string ByteArray.empty, .string ByteArray.empty, .string ByteArray.empty, .string ByteArray.empty, .string ByteArray.empty, .string ByteArray.empty, .string ByteArray.empty, .string ByteArray.empty, .string ByteArray.empty, .string ByteArray.empty, .string ByteArray.empty, .string ByteArray.empty, .string ByteArray.empty, .string ByteArray.empty, .string ByteArray.empty, .string ByteArray.empty, .string ByteArray.empty, .string ByteArray.empty, .string ByteArray.empty, .string ByteArray.empty, .string ByteArray.empty, .string ByteArray.empty, .string ByteArray.empty, .string ByteArray.empty, .bool false, .bool false]
noncomputable def ref0 (p : Pm) : Array Value := (Tryd.zeroCells35.setIfInBounds 66 (.bool p.hasAgain)).setIfInBounds 67 (.bool p.hasReset)
theorem ref0_one (p : Pm) : (ref0 p).all (·.oneCell') = true := by kernel_rfl
/-- The document's record. -/
def refRow (p : Pm) : Array Value := #[.int .i64 0, .int .i64 (p.nk 0), .int .i64 0, .int .i64 (p.nk 1), .int .i64 (p.nk 2), .int .i64 (p.nk 3), .int .i64 (p.nk 4), .int .i64 (p.nk 5), .int .i64 (p.nk 6), .int .i64 (p.nk 7), .int .i64 (p.nk 8), .int .i64 (p.nk 9), .int .i64 (if p.still then 1 else 0), .int .i64 0, .int .i64 (p.nk 10), .int .i64 0, .int .i64 0, .int .i64 0, .int .i64 0, .int .i64 0, .int .i64 0, .int .i64 0, .int .i64 0, .int .i64 0, .int .i64 0, .int .i64 0, .int .i64 0, .int .i64 0, .int .i64 0, .int .i64 0, .int .i64 0, .int .i64 0, .int .i64 (p.nk 11), .string (strOfNums p.orig), .string ByteArray.empty, .string (strOfNums p.reset), .string ByteArray.empty, .string ByteArray.empty, .string ByteArray.empty, .string ByteArray.empty, .string ByteArray.empty, .string ByteArray.empty, .string ByteArray.empty, .string ByteArray.empty, .string ByteArray.empty, .string ByteArray.empty, .string ByteArray.empty, .string ByteArray.empty, .string (strOfNums p.first), .string (strOfNums p.again), .string ByteArray.empty, .string ByteArray.empty, .string ByteArray.empty, .string ByteArray.empty, .string ByteArray.empty, .string ByteArray.empty, .string ByteArray.empty, .string ByteArray.empty, .string ByteArray.empty, .string ByteArray.empty, .string ByteArray.empty, .string ByteArray.empty, .string ByteArray.empty, .string ByteArray.empty, .string ByteArray.empty, .string ByteArray.empty, .bool p.hasAgain, .bool p.hasReset]
theorem ref_size : (Tryd.prog.info? 35).map (·.size) = some 68 := by kernel_rfl
/-- Under way: block g holds the record, block r0 the result's variable, block r the row Y. -/
structure RfSt (W0 W : World) (g r0 r : Nat) (p : Pm) (vo vf va : Value) (Y : Array Value) : Prop where
  bel : Below W0.heap.size W0 W
  pm : PmAt W g p vo vf va
  out : W.heap[r0]? = some (.cells Tryd.zeroCells35 35 (0, 0))
  row : W.heap[r]? = some (.cells Y 35 (0, 0))
  gr : g ≠ r
  r0r : r0 ≠ r
  l0 : W0.heap.size ≤ r0
  l : W0.heap.size ≤ r
theorem RfSt.below {g r0 r : Nat} {Y : Array Value} (h : RfSt W0 W g r0 r p vo vf va Y) (hb : Below W.heap.size W W') : RfSt W0 W' g r0 r p vo vf va Y :=
  ⟨Bl.then h.bel hb, h.pm.below hb h.pm.lt, (hb.block r0 (Array.getElem?_eq_some_iff.1 h.out).1).trans h.out, (hb.block r (Array.getElem?_eq_some_iff.1 h.row).1).trans h.row, h.gr, h.r0r, h.l0, h.l⟩
theorem RfSt.set {g r0 r : Nat} {Y : Array Value} (h : RfSt W0 W g r0 r p vo vf va Y) (k : Nat) (u : Value) : RfSt W0 (W.setCell ⟨r, k, none⟩ u) g r0 r p vo vf va (Y.setIfInBounds k u) :=
  ⟨h.bel.setCell (p := ⟨r, k, none⟩) h.l u, (Below.heap_setCell W ⟨r, k, none⟩ u g h.gr).trans h.pm, (Below.heap_setCell W ⟨r, k, none⟩ u r0 h.r0r).trans h.out, heap_setCell_same W r k Y _ u h.row, h.gr, h.r0r, h.l0, h.l⟩
theorem RfSt.drew {w : World} {g r0 r : Nat} {Y : Array Value} (h : RfSt W0 w g r0 r p vo vf va Y) : RfSt W0 w.drew g r0 r p vo vf va Y := h.below (Bl.drew (Below.refl _ _))
theorem RfE.set {w : World} {g r0 r : Nat} (h : ∃ Y, RfSt W0 w g r0 r p vo vf va Y) (k : Nat) (u : Value) : ∃ Y, RfSt W0 (w.setCell ⟨r, k, none⟩ u) g r0 r p vo vf va Y := let ⟨_, h⟩ := h; ⟨_, h.set k u⟩
theorem RfE.drew {w : World} {g r0 r : Nat} (h : ∃ Y, RfSt W0 w g r0 r p vo vf va Y) : ∃ Y, RfSt W0 w.drew g r0 r p vo vf va Y := let ⟨_, h⟩ := h; ⟨_, h.drew⟩
theorem s2_of {w : World} {g r0 r : Nat} {Y : Array Value} (h : RfSt W0 w g r0 r p vo vf va Y) (hs : Sz p) : w.cell? ⟨g, 0, none⟩ = some (.int .i64 (p.nk 0)) ∧ w.cell? ⟨g, 1, none⟩ = some (.int .i64 (p.nk 1)) ∧ w.cell? ⟨g, 2, none⟩ = some (.int .i64 (p.nk 2)) ∧ w.cell? ⟨g, 3, none⟩ = some (.int .i64 (p.nk 3)) ∧ w.cell? ⟨g, 4, none⟩ = some (.int .i64 (p.nk 4)) ∧ w.cell? ⟨g, 5, none⟩ = some (.int .i64 (p.nk 5)) :=
  ⟨h.pm.num hs (k := 0) (by decide), h.pm.num hs (k := 1) (by decide), h.pm.num hs (k := 2) (by decide), h.pm.num hs (k := 3) (by decide), h.pm.num hs (k := 4) (by decide), h.pm.num hs (k := 5) (by decide)⟩
theorem s3_of {w : World} {g r0 r : Nat} {Y : Array Value} (h : RfSt W0 w g r0 r p vo vf va Y) (hs : Sz p) : w.cell? ⟨g, 6, none⟩ = some (.int .i64 (p.nk 6)) ∧ w.cell? ⟨g, 7, none⟩ = some (.int .i64 (p.nk 7)) ∧ w.cell? ⟨g, 8, none⟩ = some (.int .i64 (p.nk 8)) ∧ w.cell? ⟨g, 9, none⟩ = some (.int .i64 (p.nk 9)) ∧ w.cell? ⟨g, 10, none⟩ = some (.bool p.still) ∧ w.cell? ⟨g, 11, none⟩ = some (.int .i64 (p.nk 10)) ∧ w.cell? ⟨g, 12, none⟩ = some (.int .i64 (p.nk 11)) :=
  ⟨h.pm.num hs (k := 6) (by decide), h.pm.num hs (k := 7) (by decide), h.pm.num hs (k := 8) (by decide), h.pm.num hs (k := 9) (by decide), (h.pm.cells hs).1, h.pm.num hs (k := 10) (by decide), h.pm.num hs (k := 11) (by decide)⟩
theorem s2_ofe {w : World} {g r0 r : Nat} (h : ∃ Y, RfSt W0 w g r0 r p vo vf va Y) (hs : Sz p) : w.cell? ⟨g, 0, none⟩ = some (.int .i64 (p.nk 0)) ∧ w.cell? ⟨g, 1, none⟩ = some (.int .i64 (p.nk 1)) ∧ w.cell? ⟨g, 2, none⟩ = some (.int .i64 (p.nk 2)) ∧ w.cell? ⟨g, 3, none⟩ = some (.int .i64 (p.nk 3)) ∧ w.cell? ⟨g, 4, none⟩ = some (.int .i64 (p.nk 4)) ∧ w.cell? ⟨g, 5, none⟩ = some (.int .i64 (p.nk 5)) := let ⟨_, h⟩ := h; s2_of h hs
theorem s3_ofe {w : World} {g r0 r : Nat} (h : ∃ Y, RfSt W0 w g r0 r p vo vf va Y) (hs : Sz p) : w.cell? ⟨g, 6, none⟩ = some (.int .i64 (p.nk 6)) ∧ w.cell? ⟨g, 7, none⟩ = some (.int .i64 (p.nk 7)) ∧ w.cell? ⟨g, 8, none⟩ = some (.int .i64 (p.nk 8)) ∧ w.cell? ⟨g, 9, none⟩ = some (.int .i64 (p.nk 9)) ∧ w.cell? ⟨g, 10, none⟩ = some (.bool p.still) ∧ w.cell? ⟨g, 11, none⟩ = some (.int .i64 (p.nk 10)) ∧ w.cell? ⟨g, 12, none⟩ = some (.int .i64 (p.nk 11)) := let ⟨_, h⟩ := h; s3_of h hs
theorem conv_of {w : World} {v : Value} {xs : List Int} (h : Sl w v xs) : (convert 22 9 (v)).run Tryd.prog w = .ok (.string (strOfNums xs)) w := by
  obtain ⟨A, c, rfl, hc, hC⟩ := h
  exact Kd.C_string Tryd.underlying22 Tryd.underlying5 Tryd.underlying9 hC
theorem s4_of {w : World} {g r0 r : Nat} {Y : Array Value} (h : RfSt W0 w g r0 r p vo vf va Y) (hs : Sz p) (hl : Sl W0 vo p.orig ∧ Sl W0 vf p.first ∧ Sl W0 va p.again) : w.cell? ⟨g, 13, none⟩ = some (vo) ∧ w.cell? ⟨g, 14, none⟩ = some (vf) ∧ w.cell? ⟨g, 15, none⟩ = some (va) ∧ (convert 22 9 (vo)).run Tryd.prog w = .ok (.string (strOfNums p.orig)) w ∧ (convert 22 9 (.slice (some ⟨g, 17, none⟩) 16 16)).run Tryd.prog w = .ok (.string (strOfNums p.reset)) w ∧ (convert 22 9 (vf)).run Tryd.prog w = .ok (.string (strOfNums p.first)) w ∧ (convert 22 9 (va)).run Tryd.prog w = .ok (.string (strOfNums p.again)) w := by
  obtain ⟨_, q13, q14, q15, _, _⟩ := h.pm.cells hs
  exact ⟨q13, q14, q15, conv_of (hl.1.below h.bel), conv_of (h.pm.resetSl hs), conv_of (hl.2.1.below h.bel), conv_of (hl.2.2.below h.bel)⟩
theorem s4_ofe {w : World} {g r0 r : Nat} (h : ∃ Y, RfSt W0 w g r0 r p vo vf va Y) (hs : Sz p) (hl : Sl W0 vo p.orig ∧ Sl W0 vf p.first ∧ Sl W0 va p.again) : w.cell? ⟨g, 13, none⟩ = some (vo) ∧ w.cell? ⟨g, 14, none⟩ = some (vf) ∧ w.cell? ⟨g, 15, none⟩ = some (va) ∧ (convert 22 9 (vo)).run Tryd.prog w = .ok (.string (strOfNums p.orig)) w ∧ (convert 22 9 (.slice (some ⟨g, 17, none⟩) 16 16)).run Tryd.prog w = .ok (.string (strOfNums p.reset)) w ∧ (convert 22 9 (vf)).run Tryd.prog w = .ok (.string (strOfNums p.first)) w ∧ (convert 22 9 (va)).run Tryd.prog w = .ok (.string (strOfNums p.again)) w := let ⟨_, h⟩ := h; s4_of h hs hl
set_option maxRecDepth 100000 in
set_option maxHeartbeats 3200000 in
theorem refs_s (hs : Sz p) (so : Sl W vo p.orig) (sf : Sl W vf p.first) (sa : Sl W va p.again) :
    Calls Tryd.prog 11 #[.agg (pmRow p vo vf va)] W fun e w' => e = .returned (.agg (refRow p)) ∧ Below W.heap.size W w' := by
  have HS := Aside0.mk hs
  obtain ⟨Z, hZ⟩ : ∃ Z, W.alloc (.cells (pmRow p vo vf va) 25 (0, 0)) = Z := ⟨_, rfl⟩
  have HZ : Aside0 (Z.heap.size = W.heap.size + 1 ∧ Below W.heap.size W Z ∧ PmAt Z W.heap.size p vo vf va) := ⟨by rw [← hZ, alloc_size], by rw [← hZ]; exact Bl.alloc (Below.refl _ W) _, by rw [← hZ]; exact heap_alloc_new W _⟩
  obtain ⟨g, hg⟩ : ∃ g, W.heap.size = g := ⟨_, rfl⟩
  go_enter Tryd.func11, Tryd.ntmps11
  go_upto_region 1 with fail
  clear hs
  obtain ⟨Z2, hZ2⟩ : ∃ Z2, Z.alloc (.cells Tryd.zeroCells35 35 (0, 0)) = Z2 := ⟨_, rfl⟩
  have HZ2 : Aside0 (Z2.heap.size = W.heap.size + 2 ∧ Below W.heap.size W Z2 ∧ PmAt Z2 W.heap.size p vo vf va ∧ Z2.heap[Z.heap.size]? = some (.cells Tryd.zeroCells35 35 (0, 0))) :=
    ⟨by rw [← hZ2, alloc_size, HZ.out.1], by rw [← hZ2]; exact Bl.alloc HZ.out.2.1 _, by rw [← hZ2]; exact HZ.out.2.2.below (Bl.alloc (Below.refl _ Z) _) HZ.out.2.2.lt, by rw [← hZ2]; exact heap_alloc_new Z _⟩
  obtain ⟨_, _, _, _, q16, q33⟩ := HZ2.out.2.2.1.cells HS.out
  rw [hg] at q16 q33
  rw [hZ2]
  clear hZ hZ2
  have hH : Aside0 (RfSt W (Z2.alloc (.cells (ref0 p) 35 (0, 0))) W.heap.size Z.heap.size Z2.heap.size p vo vf va (ref0 p)) := ⟨by
    have e1 := HZ.out.1
    have e2 := HZ2.out.1
    have hb := Bl.alloc HZ2.out.2.1 (.cells (ref0 p) 35 (0, 0))
    have hb2 := Bl.alloc (Below.refl _ Z2) (.cells (ref0 p) 35 (0, 0))
    exact ⟨hb, HZ2.out.2.2.1.below hb2 HZ2.out.2.2.1.lt, (hb2.block _ (by omega)).trans HZ2.out.2.2.2, heap_alloc_new Z2 _, by omega, by omega, by omega, by omega⟩⟩
  have HSL := Aside0.mk (And.intro so (And.intro sf sa))
  clear so sf sa
  go_upto_region 2 with (first
    | ((with_reducible refine gate_st (t := 35) (p := .tmp 3) (v := .tmp 8) rfl ?_); refine wpList_store_row rfl 35 (.tmp 3) (.tmp 8) rfl Z2.heap.size (ref0 p) rfl rfl 35 _ (heap_alloc_new Z2 _) ref_size rfl (ref0_one p) ?_; rw [World.setRow_alloc_new]))
  obtain ⟨r0, hr0⟩ : ∃ r0, Z.heap.size = r0 := ⟨_, rfl⟩
  obtain ⟨r, hr⟩ : ∃ r, Z2.heap.size = r := ⟨_, rfl⟩
  obtain ⟨w, hw⟩ : ∃ w, Z2.alloc (.cells (ref0 p) 35 (0, 0)) = w := ⟨_, rfl⟩
  rw [hw, hg, hr0, hr] at hH
  simp only [hr0, hr, hw]
  clear hr0 hr hw q16 q33 HZ2 HZ
  have hgr := hH.out.gr
  have hgr2 : r ≠ g := fun e => hgr e.symm
  obtain ⟨sv, hsv⟩ : ∃ sv : Int, (if p.still then 1 else 0) = sv := ⟨_, rfl⟩
  have ST : Aside0 (∀ W', Calls Tryd.prog 24 #[.bool p.still] W' fun e w' => e = .returned (.int .i64 sv) ∧ W' = w') := ⟨fun W' => by rw [← hsv]; exact still_s _⟩
  have HSV := Aside0.mk hsv
  clear hsv
  have sfacts := s2_of hH.out HS.out
  have d1 : w.cell? ⟨r, 1, none⟩ = some (.int .i64 0) := by rw [cell_of_row w r _ _ _ _ hH.out.row]; kernel_rfl
  have d3 : w.cell? ⟨r, 3, none⟩ = some (.int .i64 0) := by rw [cell_of_row w r _ _ _ _ hH.out.row]; kernel_rfl
  have d4 : w.cell? ⟨r, 4, none⟩ = some (.int .i64 0) := by rw [cell_of_row w r _ _ _ _ hH.out.row]; kernel_rfl
  have d5 : w.cell? ⟨r, 5, none⟩ = some (.int .i64 0) := by rw [cell_of_row w r _ _ _ _ hH.out.row]; kernel_rfl
  have d6 : w.cell? ⟨r, 6, none⟩ = some (.int .i64 0) := by rw [cell_of_row w r _ _ _ _ hH.out.row]; kernel_rfl
  have d7 : w.cell? ⟨r, 7, none⟩ = some (.int .i64 0) := by rw [cell_of_row w r _ _ _ _ hH.out.row]; kernel_rfl
  have fz2 : ∀ i, w.frozen? ⟨r, i, none⟩ = false := fun i => blk_frozen hH.out.row i
  go_region_held3 (fun w' => w'.cell? ⟨g, 0, none⟩ = some (.int .i64 (p.nk 0)) ∧ w'.cell? ⟨g, 1, none⟩ = some (.int .i64 (p.nk 1)) ∧ w'.cell? ⟨g, 2, none⟩ = some (.int .i64 (p.nk 2)) ∧ w'.cell? ⟨g, 3, none⟩ = some (.int .i64 (p.nk 3)) ∧ w'.cell? ⟨g, 4, none⟩ = some (.int .i64 (p.nk 4)) ∧ w'.cell? ⟨g, 5, none⟩ = some (.int .i64 (p.nk 5)))
    (exact s2_ofe (W0 := W) (r0 := r0) (r := r) (vo := vo) (vf := vf) (va := va) (by repeat (first | (with_reducible exact ⟨_, hH.out⟩) | (with_reducible refine RfE.set ?_ _ _) | (with_reducible refine RfE.drew ?_))) HS.out)
    (fail)
  have hH2 : Aside0 (RfSt W ((((((w.setCell ⟨r, 1, none⟩ (.int .i64 (p.nk 0))).setCell ⟨r, 3, none⟩ (.int .i64 (p.nk 1))).setCell ⟨r, 4, none⟩ (.int .i64 (p.nk 2))).setCell ⟨r, 5, none⟩ (.int .i64 (p.nk 3))).setCell ⟨r, 6, none⟩ (.int .i64 (p.nk 4))).setCell ⟨r, 7, none⟩ (.int .i64 (p.nk 5))).drew g r0 r p vo vf va (((((((ref0 p).setIfInBounds 1 (.int .i64 (p.nk 0))).setIfInBounds 3 (.int .i64 (p.nk 1))).setIfInBounds 4 (.int .i64 (p.nk 2))).setIfInBounds 5 (.int .i64 (p.nk 3))).setIfInBounds 6 (.int .i64 (p.nk 4))).setIfInBounds 7 (.int .i64 (p.nk 5)))) := ⟨by repeat (first | (with_reducible exact hH.out) | (with_reducible refine RfSt.set ?_ _ _) | (with_reducible refine RfSt.drew ?_))⟩
  obtain ⟨w2, hw2⟩ : ∃ w2, ((((((w.setCell ⟨r, 1, none⟩ (.int .i64 (p.nk 0))).setCell ⟨r, 3, none⟩ (.int .i64 (p.nk 1))).setCell ⟨r, 4, none⟩ (.int .i64 (p.nk 2))).setCell ⟨r, 5, none⟩ (.int .i64 (p.nk 3))).setCell ⟨r, 6, none⟩ (.int .i64 (p.nk 4))).setCell ⟨r, 7, none⟩ (.int .i64 (p.nk 5))).drew = w2 := ⟨_, rfl⟩
  obtain ⟨Y2, hY2⟩ : ∃ Y2, (((((((ref0 p).setIfInBounds 1 (.int .i64 (p.nk 0))).setIfInBounds 3 (.int .i64 (p.nk 1))).setIfInBounds 4 (.int .i64 (p.nk 2))).setIfInBounds 5 (.int .i64 (p.nk 3))).setIfInBounds 6 (.int .i64 (p.nk 4))).setIfInBounds 7 (.int .i64 (p.nk 5))) = Y2 := ⟨_, rfl⟩
  rw [hw2, hY2] at hH2
  rw [hw2]
  have HY2 := Aside0.mk hY2
  clear hY2
  clear sfacts fz2 d1 d3 d4 d5 d6 d7
  (try clear hw2)
  have sfacts := s3_of hH2.out HS.out
  have d8 : w2.cell? ⟨r, 8, none⟩ = some (.int .i64 0) := by rw [cell_of_row w2 r _ _ _ _ hH2.out.row]; rw [← HY2.out]; kernel_rfl
  have d9 : w2.cell? ⟨r, 9, none⟩ = some (.int .i64 0) := by rw [cell_of_row w2 r _ _ _ _ hH2.out.row]; rw [← HY2.out]; kernel_rfl
  have d10 : w2.cell? ⟨r, 10, none⟩ = some (.int .i64 0) := by rw [cell_of_row w2 r _ _ _ _ hH2.out.row]; rw [← HY2.out]; kernel_rfl
  have d11 : w2.cell? ⟨r, 11, none⟩ = some (.int .i64 0) := by rw [cell_of_row w2 r _ _ _ _ hH2.out.row]; rw [← HY2.out]; kernel_rfl
  have d12 : w2.cell? ⟨r, 12, none⟩ = some (.int .i64 0) := by rw [cell_of_row w2 r _ _ _ _ hH2.out.row]; rw [← HY2.out]; kernel_rfl
  have d14 : w2.cell? ⟨r, 14, none⟩ = some (.int .i64 0) := by rw [cell_of_row w2 r _ _ _ _ hH2.out.row]; rw [← HY2.out]; kernel_rfl
  have d32 : w2.cell? ⟨r, 32, none⟩ = some (.int .i64 0) := by rw [cell_of_row w2 r _ _ _ _ hH2.out.row]; rw [← HY2.out]; kernel_rfl
  have fz3 : ∀ i, w2.frozen? ⟨r, i, none⟩ = false := fun i => blk_frozen hH2.out.row i
  go_upto_region 3 with fail
  go_region_held3 (fun w' => w'.cell? ⟨g, 6, none⟩ = some (.int .i64 (p.nk 6)) ∧ w'.cell? ⟨g, 7, none⟩ = some (.int .i64 (p.nk 7)) ∧ w'.cell? ⟨g, 8, none⟩ = some (.int .i64 (p.nk 8)) ∧ w'.cell? ⟨g, 9, none⟩ = some (.int .i64 (p.nk 9)) ∧ w'.cell? ⟨g, 10, none⟩ = some (.bool p.still) ∧ w'.cell? ⟨g, 11, none⟩ = some (.int .i64 (p.nk 10)) ∧ w'.cell? ⟨g, 12, none⟩ = some (.int .i64 (p.nk 11)))
    (exact s3_ofe (W0 := W) (r0 := r0) (r := r) (vo := vo) (vf := vf) (va := va) (by repeat (first | (with_reducible exact ⟨_, hH2.out⟩) | (with_reducible refine RfE.set ?_ _ _) | (with_reducible refine RfE.drew ?_))) HS.out)
    (first | (go_at_call 24; (refine (ST.out _).mono ?_); rintro e w' ⟨rfl, rfl⟩))
  have hH3 : Aside0 (RfSt W (((((((w2.setCell ⟨r, 8, none⟩ (.int .i64 (p.nk 6))).setCell ⟨r, 9, none⟩ (.int .i64 (p.nk 7))).setCell ⟨r, 10, none⟩ (.int .i64 (p.nk 8))).setCell ⟨r, 11, none⟩ (.int .i64 (p.nk 9))).setCell ⟨r, 12, none⟩ (.int .i64 sv)).setCell ⟨r, 14, none⟩ (.int .i64 (p.nk 10))).setCell ⟨r, 32, none⟩ (.int .i64 (p.nk 11))).drew g r0 r p vo vf va (((((((Y2.setIfInBounds 8 (.int .i64 (p.nk 6))).setIfInBounds 9 (.int .i64 (p.nk 7))).setIfInBounds 10 (.int .i64 (p.nk 8))).setIfInBounds 11 (.int .i64 (p.nk 9))).setIfInBounds 12 (.int .i64 sv)).setIfInBounds 14 (.int .i64 (p.nk 10))).setIfInBounds 32 (.int .i64 (p.nk 11)))) := ⟨by repeat (first | (with_reducible exact hH2.out) | (with_reducible refine RfSt.set ?_ _ _) | (with_reducible refine RfSt.drew ?_))⟩
  obtain ⟨w3, hw3⟩ : ∃ w3, (((((((w2.setCell ⟨r, 8, none⟩ (.int .i64 (p.nk 6))).setCell ⟨r, 9, none⟩ (.int .i64 (p.nk 7))).setCell ⟨r, 10, none⟩ (.int .i64 (p.nk 8))).setCell ⟨r, 11, none⟩ (.int .i64 (p.nk 9))).setCell ⟨r, 12, none⟩ (.int .i64 sv)).setCell ⟨r, 14, none⟩ (.int .i64 (p.nk 10))).setCell ⟨r, 32, none⟩ (.int .i64 (p.nk 11))).drew = w3 := ⟨_, rfl⟩
  obtain ⟨Y3, hY3⟩ : ∃ Y3, (((((((Y2.setIfInBounds 8 (.int .i64 (p.nk 6))).setIfInBounds 9 (.int .i64 (p.nk 7))).setIfInBounds 10 (.int .i64 (p.nk 8))).setIfInBounds 11 (.int .i64 (p.nk 9))).setIfInBounds 12 (.int .i64 sv)).setIfInBounds 14 (.int .i64 (p.nk 10))).setIfInBounds 32 (.int .i64 (p.nk 11))) = Y3 := ⟨_, rfl⟩
  rw [hw3, hY3] at hH3
  rw [hw3]
  have HY3 := Aside0.mk hY3
  clear hY3
  clear sfacts fz3 d8 d9 d10 d11 d12 d14 d32
  (try clear hw3)
  have sfacts := s4_of hH3.out HS.out HSL.out
  have d33 : w3.cell? ⟨r, 33, none⟩ = some (.string ByteArray.empty) := by rw [cell_of_row w3 r _ _ _ _ hH3.out.row]; rw [← HY3.out, ← HY2.out]; kernel_rfl
  have d35 : w3.cell? ⟨r, 35, none⟩ = some (.string ByteArray.empty) := by rw [cell_of_row w3 r _ _ _ _ hH3.out.row]; rw [← HY3.out, ← HY2.out]; kernel_rfl
  have d48 : w3.cell? ⟨r, 48, none⟩ = some (.string ByteArray.empty) := by rw [cell_of_row w3 r _ _ _ _ hH3.out.row]; rw [← HY3.out, ← HY2.out]; kernel_rfl
  have d49 : w3.cell? ⟨r, 49, none⟩ = some (.string ByteArray.empty) := by rw [cell_of_row w3 r _ _ _ _ hH3.out.row]; rw [← HY3.out, ← HY2.out]; kernel_rfl
  have fz4 : ∀ i, w3.frozen? ⟨r, i, none⟩ = false := fun i => blk_frozen hH3.out.row i
  go_upto_region 4 with fail
  go_region_held3 (fun w' => w'.cell? ⟨g, 13, none⟩ = some (vo) ∧ w'.cell? ⟨g, 14, none⟩ = some (vf) ∧ w'.cell? ⟨g, 15, none⟩ = some (va) ∧ (convert 22 9 (vo)).run Tryd.prog w' = .ok (.string (strOfNums p.orig)) w' ∧ (convert 22 9 (.slice (some ⟨g, 17, none⟩) 16 16)).run Tryd.prog w' = .ok (.string (strOfNums p.reset)) w' ∧ (convert 22 9 (vf)).run Tryd.prog w' = .ok (.string (strOfNums p.first)) w' ∧ (convert 22 9 (va)).run Tryd.prog w' = .ok (.string (strOfNums p.again)) w')
    (exact s4_ofe (W0 := W) (r0 := r0) (r := r) (vo := vo) (vf := vf) (va := va) (by repeat (first | (with_reducible exact ⟨_, hH3.out⟩) | (with_reducible refine RfE.set ?_ _ _) | (with_reducible refine RfE.drew ?_))) HS.out HSL.out)
    (fail)
  have hH4 : Aside0 (RfSt W ((((w3.setCell ⟨r, 33, none⟩ (.string (strOfNums p.orig))).setCell ⟨r, 35, none⟩ (.string (strOfNums p.reset))).setCell ⟨r, 48, none⟩ (.string (strOfNums p.first))).setCell ⟨r, 49, none⟩ (.string (strOfNums p.again))).drew g r0 r p vo vf va ((((Y3.setIfInBounds 33 (.string (strOfNums p.orig))).setIfInBounds 35 (.string (strOfNums p.reset))).setIfInBounds 48 (.string (strOfNums p.first))).setIfInBounds 49 (.string (strOfNums p.again)))) := ⟨by repeat (first | (with_reducible exact hH3.out) | (with_reducible refine RfSt.set ?_ _ _) | (with_reducible refine RfSt.drew ?_))⟩
  obtain ⟨w4, hw4⟩ : ∃ w4, ((((w3.setCell ⟨r, 33, none⟩ (.string (strOfNums p.orig))).setCell ⟨r, 35, none⟩ (.string (strOfNums p.reset))).setCell ⟨r, 48, none⟩ (.string (strOfNums p.first))).setCell ⟨r, 49, none⟩ (.string (strOfNums p.again))).drew = w4 := ⟨_, rfl⟩
  obtain ⟨Y4, hY4⟩ : ∃ Y4, ((((Y3.setIfInBounds 33 (.string (strOfNums p.orig))).setIfInBounds 35 (.string (strOfNums p.reset))).setIfInBounds 48 (.string (strOfNums p.first))).setIfInBounds 49 (.string (strOfNums p.again))) = Y4 := ⟨_, rfl⟩
  rw [hw4, hY4] at hH4
  rw [hw4]
  have HY4 := Aside0.mk hY4
  clear hY4
  clear sfacts fz4 d33 d35 d48 d49
  (try clear hw4)
  clear ST hgr hgr2
  have HYS : Aside0 (Y4 = refRow p) := ⟨by rw [← HY4.out, ← HY3.out, ← HY2.out, ← HSV.out]; kernel_rfl⟩
  have hY1 : Y4.all (·.oneCell') = true := by rw [HYS.out]; kernel_rfl
  have hYs : Y4.size = 68 := by rw [HYS.out]; rfl
  have HYY := Aside0.mk (And.intro hY1 hYs)
  clear hY1 hYs
  go_wp2_with (first
    | ((with_reducible refine gate_ld (t := 35) rfl ?_); refine wpList_load_row rfl 35 (.tmp 3) rfl r rfl 35 _ (0, 0) _ hH4.out.row Tryd.underlying35 rfl (by rw [HYY.out.2]; exact ref_size) ?_)
    | ((with_reducible refine gate_st (t := 35) (p := .tmp 2) (v := .tmp 82) rfl ?_); refine wpList_store_row rfl 35 (.tmp 2) (.tmp 82) rfl r0 Y4 rfl rfl 35 _ hH4.out.out (by rw [HYY.out.2]; exact ref_size) (by rw [HYY.out.2]; kernel_rfl) HYY.out.1 ?_))
  refine bodyPost_ret (results_cell_row rfl _ _ r0 35 Y4 (0, 0) _ rfl (setRow_heap _ r0 _ _ _ _ hH4.out.out) Tryd.underlying35 rfl (by rw [HYY.out.2]; exact ref_size)) rfl ?_
  exact ⟨by rw [HYS.out], below_setRow hH4.out.bel hH4.out.l0 _⟩
end Go.Proofs.YtcidijmdndcdlaaDoor.Pr
