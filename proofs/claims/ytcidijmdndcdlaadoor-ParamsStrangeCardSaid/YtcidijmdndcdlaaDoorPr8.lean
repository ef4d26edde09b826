/- Parameters (layer 3): the state of a reading; what its steps leave; no condition. -/
import Derived.Test.YtcidijmdndcdlaaDoorPr7
import Derived.Deep.RegionWith
set_option linter.unusedVariables false
set_option linter.unusedSimpArgs false
namespace Go.Proofs.YtcidijmdndcdlaaDoor.Pr
open Go Go.RowKit Go.Maps Go.Proofs.YtcidijmdndcdlaaDoor.Pm Go.Proofs.YtcidijmdndcdlaaDoor.Rm Go.Proofs.YtcidijmdndcdlaaDoor.OctM
open Go.Proofs.YtcidijmdndcdlaaDoorW.PrintWords Go.Proofs.YtcidijmdndcdlaaDoorW.PrintLast Go.Proofs.YtcidijmdndcdlaaDoorW.PrintMore
variable {W W' W0 : World} {g b B m n : Nat} {p : Pm} {vo vf va : Value} {kv : KV}
/-- A row of the call's own, not in block g. -/
abbrev Ow (W : World) (B g : Nat) (v : Value) (xs : List Int) : Prop := (Kd.int .u8).R 5 W B (fun k => k ≠ g) v xs
/-- The struct under way. -/
structure RdSt (B : Nat) (W : World) (g : Nat) (p : Pm) (vo vf va : Value) : Prop where
  pm : PmAt W g p vo vf va
  sz : Sz p
  so : Ow W B g vo p.orig
  sf : Ow W B g vf p.first
  sa : Ow W B g va p.again
  ap : ∀ k, vo.ownBlock = some k → vf.ownBlock = some k → False
  gB : B ≤ g
  B0 : 0 < B
theorem Ow.move {v : Value} {xs : List Int} (h : Ow W B g v xs) (hx : ButM W W' g) : Ow W' B g v xs := Kd.R_step h (fun k ho hk => hx.block k hk ho)
theorem Ow.own {v : Value} {xs : List Int} (h : Ow W B g v xs) : W.ownsRow B 5 1 v xs.length (encs (Value.int .u8) xs) := Kd.own_of_R h
theorem Ow.one {v : Value} {xs : List Int} (h : Ow W B g v xs) : v.oneCell' = true := by
  obtain ⟨A, c, rfl, _⟩ := Kd.R_reads h
  rfl
/-- What a call has made anew. -/
theorem ow_new {v : Value} {xs : List Int} {w1 : World} (h : (Kd.int .u8).R 5 W' w1.heap.size (fun _ => True) v xs) (hg : g < w1.heap.size) (hB : B ≤ w1.heap.size) : Ow W' B g v xs :=
  Kd.R_lower (Kd.R_mono (Kd.R_bound h) (fun k hk => by have := hk.2.1; omega)) hB
theorem ButM.refl (W : World) (m : Nat) : ButM W W m := ⟨rfl, rfl, rfl, Nat.le_refl _, fun _ _ _ => rfl⟩
theorem ButM.trans {A C D : World} (h1 : ButM A C m) (h2 : ButM C D m) : ButM A D m :=
  ⟨h2.os.trans h1.os, h2.tape.trans h1.tape, h2.output.trans h1.output, Nat.le_trans h1.size h2.size, fun k hk hn => (h2.block k (Nat.lt_of_lt_of_le hk h1.size) hn).trans (h1.block k hk hn)⟩
theorem ButM.set (h : ButM W W' g) (i : Nat) (v : Value) : ButM W (W'.setCell ⟨g, i, none⟩ v) g :=
  ⟨h.os, h.tape, h.output, by simpa [World.setCell] using h.size, fun k hk hn => (Below.heap_setCell W' ⟨g, i, none⟩ v k hn).trans (h.block k hk hn)⟩
theorem RdSt.below (h : RdSt B W g p vo vf va) (hb : Below W.heap.size W W') : RdSt B W' g p vo vf va :=
  ⟨h.pm.below hb h.pm.lt, h.sz, Kd.R_below h.so hb, Kd.R_below h.sf hb, Kd.R_below h.sa hb, h.ap, h.gB, h.B0⟩
theorem gl_butM (hG : GL W) (hx : ButM W W' g) (hg0 : (0 : Nat) ≠ g) : GL W' := by
  have hz : ∀ a v, W.cell? a = some v → a.block ≠ g → W'.cell? a = some v := fun a v hc hn => (World.cell?_of_block (hx.block a.block (World.block_lt_of_cell? W a hc) hn)).trans hc
  obtain ⟨h0, h1, h2, h3⟩ := hG
  exact ⟨hz _ _ h0 hg0, hz _ _ h1 hg0, hz _ _ h2 hg0, hz _ _ h3 hg0⟩
/-- One field set. -/
theorem RdSt.setn (h : RdSt B W g p vo vf va) {k : Nat} (hk : k < 12) (v : Int) : RdSt B (W.setCell ⟨g, foff k, none⟩ (.int .i64 v)) g { p with n := p.n.set k v } vo vf va :=
  have hx := (ButM.refl W g).set (foff k) (.int .i64 v)
  ⟨h.pm.setn h.sz hk v, ⟨by simp [h.sz.n], h.sz.r⟩, h.so.move hx, h.sf.move hx, h.sa.move hx, h.ap, h.gB, h.B0⟩
theorem RdSt.g0 (h : RdSt B W g p vo vf va) : (0 : Nat) ≠ g := by have := h.gB; have := h.B0; omega
theorem RdSt.seta (h : RdSt B W g p vo vf va) (b : Bool) :
    RdSt B (W.setCell ⟨g, 10, none⟩ (.bool b)) g { p with still := b } vo vf va ∧ RdSt B (W.setCell ⟨g, 16, none⟩ (.bool b)) g { p with hasAgain := b } vo vf va ∧ RdSt B (W.setCell ⟨g, 33, none⟩ (.bool b)) g { p with hasReset := b } vo vf va := by
  obtain ⟨r1, _, _, _, r2, r3⟩ := row_set h.sz vo vf va nilS b
  have key : ∀ i, ButM W (W.setCell ⟨g, i, none⟩ (.bool b)) g := fun i => (ButM.refl W g).set i _
  refine ⟨⟨?_, ⟨h.sz.n, h.sz.r⟩, h.so.move (key _), h.sf.move (key _), h.sa.move (key _), h.ap, h.gB, h.B0⟩, ⟨?_, ⟨h.sz.n, h.sz.r⟩, h.so.move (key _), h.sf.move (key _), h.sa.move (key _), h.ap, h.gB, h.B0⟩, ⟨?_, ⟨h.sz.n, h.sz.r⟩, h.so.move (key _), h.sf.move (key _), h.sa.move (key _), h.ap, h.gB, h.B0⟩⟩
  · unfold PmAt; rw [← r1]; exact heap_setCell_same W g _ _ _ _ h.pm
  · unfold PmAt; rw [← r2]; exact heap_setCell_same W g _ _ _ _ h.pm
  · unfold PmAt; rw [← r3]; exact heap_setCell_same W g _ _ _ _ h.pm
/-- A text set: a row made anew in a later world W' (W0: the world of the reading so far). -/
theorem RdSt.text (h : RdSt B W g p vo vf va) {v : Value} {xs : List Int} (hv : Ow W B g v xs) (hnew : ∀ k, v.ownBlock = some k → vo.ownBlock ≠ some k ∧ vf.ownBlock ≠ some k) :
    RdSt B (W.setCell ⟨g, 13, none⟩ v) g { p with orig := xs } v vf va ∧ RdSt B (W.setCell ⟨g, 14, none⟩ v) g { p with first := xs } vo v va ∧ RdSt B (W.setCell ⟨g, 15, none⟩ v) g { p with again := xs } vo vf v := by
  obtain ⟨_, r1, r2, r3, _, _⟩ := row_set h.sz vo vf va v true
  have key : ∀ i, ButM W (W.setCell ⟨g, i, none⟩ v) g := fun i => (ButM.refl W g).set i _
  refine ⟨⟨?_, ⟨h.sz.n, h.sz.r⟩, hv.move (key _), h.sf.move (key _), h.sa.move (key _), fun k h1 h2 => (hnew k h1).2 h2, h.gB, h.B0⟩, ⟨?_, ⟨h.sz.n, h.sz.r⟩, h.so.move (key _), hv.move (key _), h.sa.move (key _), fun k h1 h2 => (hnew k h2).1 h1, h.gB, h.B0⟩, ⟨?_, ⟨h.sz.n, h.sz.r⟩, h.so.move (key _), h.sf.move (key _), hv.move (key _), h.ap, h.gB, h.B0⟩⟩
  · show (W.setCell ⟨g, 13, none⟩ v).heap[g]? = some (.cells (pmRow { p with orig := xs } v vf va) _ _)
    rw [show pmRow { p with orig := xs } v vf va = pmRow p v vf va from rfl, ← r1]; exact heap_setCell_same W g _ _ _ _ h.pm
  · show (W.setCell ⟨g, 14, none⟩ v).heap[g]? = some (.cells (pmRow { p with first := xs } vo v va) _ _)
    rw [show pmRow { p with first := xs } vo v va = pmRow p vo v va from rfl, ← r2]; exact heap_setCell_same W g _ _ _ _ h.pm
  · show (W.setCell ⟨g, 15, none⟩ v).heap[g]? = some (.cells (pmRow { p with again := xs } vo vf v) _ _)
    rw [show pmRow { p with again := xs } vo vf v = pmRow p vo vf v from rfl, ← r3]; exact heap_setCell_same W g _ _ _ _ h.pm
/-- The copy into Reset. -/
def copied (r xs : List Int) : List Int := xs.take 16 ++ r.drop xs.length
theorem copied_len {r xs : List Int} (h : r.length = 16) : (copied r xs).length = 16 := by
  unfold copied; rw [List.length_append, List.length_take, List.length_drop, h]; omega
theorem copied_16 {r xs : List Int} (h : r.length = 16) (hx : xs.length = 16) : copied r xs = xs := by
  unfold copied; rw [List.take_of_length_le (by omega), List.drop_of_length_le (by omega), List.append_nil]
theorem row_copy {p : Pm} (h : Sz p) (vo vf va : Value) (xs : List Int) :
    ((pmRow p vo vf va).toList.take 17 ++ (xs.take 16).map (Value.int .u8) ++ (pmRow p vo vf va).toList.drop (17 + (xs.take 16).length)).toArray = pmRow { p with reset := copied p.reset xs } vo vf va := by
  obtain ⟨H, hH, hl⟩ : ∃ H : List Value, (∀ r : List Int, (pmRow { p with reset := r } vo vf va).toList = H ++ (r.map (Value.int .u8) ++ [.bool p.hasReset])) ∧ H.length = 17 := by
    refine ⟨(p.n.take 10).map (Value.int .i64) ++ (.bool p.still :: ((p.n.drop 10).map (Value.int .i64) ++ [vo, vf, va, .bool p.hasAgain])), fun r => ?_, ?_⟩
    · unfold pmRow; simp
    · simp [h.n]
  have h0 := hH p.reset
  have h1 := hH (copied p.reset xs)
  have e0 : (pmRow p vo vf va).toList = H ++ (p.reset.map (Value.int .u8) ++ [.bool p.hasReset]) := h0
  apply Array.ext'
  rw [h1, e0]
  simp only []
  rw [List.take_append_of_le_length (by omega), List.take_of_length_le (by omega), List.append_assoc, ← hl, List.drop_append]
  congr 1
  rw [List.drop_of_length_le (by omega), List.nil_append, Nat.add_sub_cancel_left]
  unfold copied
  rw [List.map_append, List.append_assoc]
  congr 1
  rw [List.length_take, List.drop_append_of_le_length (by rw [List.length_map, h.r]; omega), List.map_drop]
  congr 1
  by_cases hx : xs.length ≤ 16
  · rw [Nat.min_eq_right hx]
  · rw [Nat.min_eq_left (by omega), List.drop_of_length_le (by rw [List.length_map, h.r]; omega), List.drop_of_length_le (by rw [List.length_map, h.r]; omega)]
theorem size1 : (Tryd.prog.info? 5).map (·.size) = some 1 := by kernel_rfl
theorem RdSt.copy (h : RdSt B W g p vo vf va) {A : Option Addr} {c : Nat} {xs : List Int} (hC : Kd.C (Kd.int .u8) W A xs.length xs) :
    ∃ w2, (∀ ty, (Builtin.copy_ #[22, 22] ty #[.slice (some ⟨g, 17, none⟩) 16 16, .slice A xs.length c]).run Tryd.prog W = .ok (.int .i64 (((xs.take 16).length : Nat) : Int)) w2) ∧ RdSt B w2 g { p with reset := copied p.reset xs } vo vf va ∧ ButM W w2 g := by
  by_cases hx : xs = []
  · subst hx
    refine ⟨W, fun ty => ?_, ?_, ButM.refl W g⟩
    · exact run_copy_none W _ _ ty 5 _ _ 16 16 0 c Tryd.underlying22 size1 (by simp)
    · have e : copied p.reset [] = p.reset := by simp [copied]
      rw [e]
      exact h
  · have hn : 0 < xs.length := List.length_pos_iff.2 hx
    obtain ⟨ad, rfl, hq⟩ := (Kd.reads_of_C (d := (0 : Int)) hC).2.2 hn
    have hw : ButM W (W.setRow g (pmRow { p with reset := copied p.reset xs } vo vf va)) g := ⟨rfl, rfl, rfl, by rw [size_setRow]; exact Nat.le_refl _, fun k hk hne => setRow_other W g k _ hne⟩
    refine ⟨W.setRow g (pmRow { p with reset := copied p.reset xs } vo vf va), fun ty => ?_, ⟨setRow_heap W g _ _ _ _ h.pm, ⟨h.sz.n, copied_len h.sz.r⟩, h.so.move hw, h.sf.move hw, h.sa.move hw, h.ap, h.gB, h.B0⟩, hw⟩
    have := run_copy_row (P := Tryd.prog) W 22 22 ty 5 g 17 16 16 ad xs.length c (pmRow p vo vf va) 25 ((xs.take 16).map (Value.int .u8)) Tryd.underlying22 size1 h.pm
      (by rw [List.length_map, List.length_take]; exact Nat.min_comm _ _)
      (fun j v hj => by
        rw [List.getElem?_map, Option.map_eq_some_iff] at hj
        obtain ⟨x, hx1, rfl⟩ := hj
        have hj2 := (List.getElem?_eq_some_iff.1 hx1).1
        rw [List.length_take] at hj2
        rw [hq j (by omega), List.getElem?_take, if_pos (by omega)] at *
        rw [List.getD_eq_getElem?_getD, hx1]; rfl)
      (by rw [List.length_map, List.length_take, row_size h.sz]; omega) (fun v hv => by
        rw [List.mem_map] at hv
        obtain ⟨x, _, rfl⟩ := hv
        rfl)
    rw [List.length_map, row_copy h.sz] at this
    rw [this]
    rfl
end Go.Proofs.YtcidijmdndcdlaaDoor.Pr
