/- Boxes (layer 6): Put on a box without pieces; no condition. -/
import Derived.Test.YtakmcbakogjeeaaIb1
import Derived.Test.YtakmcbakogjeeaaShelf
set_option linter.unusedVariables false
set_option linter.unusedSimpArgs false
namespace Go.Proofs.Ytakmcbakogjeeaa.Ib
open Go Go.RowKit Go.Maps Go.Proofs.Ytakmcbakogjeeaa.Rm
open Go.Proofs.YtakmcbakogjeeaaW.PrintWords Go.Proofs.YtakmcbakogjeeaaW.PrintLast Go.Proofs.YtakmcbakogjeeaaW.PrintMore
variable {W W' : World} {b g m n : Nat} {D : Nat → Prop} {h : Hd} {kv : KV}
theorem starts_e (x : BoxAt W b g m n h []) : Calls Try.prog 78 #[.pointer (some ⟨g, 0, none⟩)] W fun e w' => e = .returned (.slice none 0 0) ∧ Below W.heap.size W w' := by
  obtain ⟨c0, c1, c2, c3, c4, c5, c6, c7⟩ := x.c
  obtain ⟨w1, hr, hR, hg, hs⟩ := rangeOf x.mp law Try.underlying42
  have hn : ∀ ty, (Instr.next (.pointer (some ⟨W.heap.size, 0, none⟩)) false ty).run Try.prog w1 = .ok (.tuple #[.bool false]) w1 := fun ty => by
    rcases nextOf Try.underlying3 hR law ty with ⟨_, _, h⟩ | ⟨_, _, _, _, h, _⟩
    · exact h
    · cases h
  have HB : Aside0 (Below W.heap.size W w1) := ⟨(Below.refl _ W).grown hg (Nat.le_refl _) (fun k e => by cases e)⟩
  have CS := Aside0.mk (fun w => Try.slices_Sort_int_none none 0 w)
  clear x hR hg hs c0 c1 c2 c3 c4 c5 c6
  go_enter Try.func78, Try.ntmps78
  go_wp2_with fail
  go_loopw [3] (fun v W' => v = .slice none 0 0 ∧ w1 = W') (fun _ _ => 0)
  case atStart => exact ⟨rfl, rfl⟩
  case round =>
    obtain ⟨rfl, rfl⟩ := hrel
    go_wp2_with (go_at_call 116; refine (CS.out _).mono ?_; rintro e w' ⟨rfl, rfl⟩)
    go_ret
    exact ⟨rfl, HB.out⟩
/-- A piece: its bytes, in a block of bytes from b on. -/
def Piece (W : World) (D : Nat → Prop) (v : Value) (bs : List Int) : Prop := ∃ (blk off c : Nat) (cs : Array Value), v = .slice (some ⟨blk, off, none⟩) bs.length c ∧ D blk ∧ bs.length ≤ c ∧ c ≤ 9223372036854775807 ∧ W.heap[blk]? = some (.cells cs 5 (0, 0)) ∧ ∀ i u, bs[i]? = some u → cs[off + i]? = some (.int .u8 u)
theorem piece_of_row {b' : Nat} {v : Value} {bs : List Int} (ho : W.ownsRow b' 5 1 v bs.length (bs.map (Value.int .u8))) (hn : 0 < bs.length) (hb : ∀ k, b' ≤ k → D k) : Piece W D v bs := by
  rcases ho.2 with ⟨_, h0⟩ | ⟨g', c, cur, rfl, hbb, hg, hnc, hcm, hcs, hx⟩
  · omega
  · refine ⟨g', 0, c, cur, rfl, hb g' hbb, hnc, by unfold maxLen at hcm; omega, hg, fun i u hu => ?_⟩
    have hi := (List.getElem?_eq_some_iff.1 hu).1
    rw [Nat.zero_add]
    have h1 : (bs.map (Value.int .u8))[i]? = some (.int .u8 u) := by rw [List.getElem?_map, hu]; rfl
    rw [← hx, List.getElem?_take] at h1
    split at h1
    · rw [← Array.getElem?_toList]; exact h1
    · cases h1
theorem Piece.mono {D' : Nat → Prop} {v : Value} {bs : List Int} (h : Piece W D' v bs) (hb : ∀ k, k < W.heap.size → D' k → D k) : Piece W D v bs := by
  obtain ⟨blk, off, c, cs, hv, h1, h2, h3, h4, h5⟩ := h
  exact ⟨blk, off, c, cs, hv, hb blk (Array.getElem?_eq_some_iff.1 h4).1 h1, h2, h3, h4, h5⟩
/-- A piece lies where its block lies as it lay. -/
theorem Piece.move {v : Value} {bs : List Int} (h : Piece W D v bs) (hm : ∀ (k : Nat) (cs : Array Value), W.heap[k]? = some (Obj.cells cs 5 (0, 0)) → W'.heap[k]? = W.heap[k]?) : Piece W' D v bs := by
  obtain ⟨blk, off, c, cs, hv, h1, h2, h3, h4, h5⟩ := h
  exact ⟨blk, off, c, cs, hv, h1, h2, h3, (hm blk cs h4).trans h4, h5⟩
theorem Piece.below {v : Value} {bs : List Int} (h : Piece W D v bs) (hb : Below W.heap.size W W') : Piece W' D v bs := h.move (fun k cs hk => hb.block k (Array.getElem?_eq_some_iff.1 hk).1)
theorem Piece.cell {v : Value} {bs : List Int} (h : Piece W D v bs) : ∃ blk off c, v = .slice (some ⟨blk, off, none⟩) bs.length c ∧ bs.length ≤ c ∧ c ≤ 9223372036854775807 ∧ D blk ∧ blk < W.heap.size ∧ ∀ i u, bs[i]? = some u → W.cell? ((⟨blk, off, none⟩ : Addr).add i) = some (.int .u8 u) := by
  obtain ⟨blk, off, c, cs, hv, h1, h2, h3, h4, h5⟩ := h
  refine ⟨blk, off, c, hv, h2, h3, h1, (Array.getElem?_eq_some_iff.1 h4).1, fun i u hu => ?_⟩
  rw [add_at, cell_of_row W blk _ _ _ _ h4]
  exact h5 i u hu
/-- What mapUpdate leaves. -/
noncomputable def upd (W : World) (m : Nat) (k : Int) (v : Value) : World := match (Instr.mapUpdate 42 (.map (some m)) (.int .i64 k) v).run Try.prog W with | .ok _ w' => w' | _ => W
theorem upd_run (hm : W.ownsMap Try.prog 3 rawElem m n (mapD kv)) (hn : n < maxLen) {k : Int} (hk : (Lit.int .i64 k).wf = true) (v : Value) :
    (Instr.mapUpdate 42 (.map (some m)) (.int .i64 k) v).run Try.prog W = .ok () (upd W m k v) ∧ (upd W m k v).ownsMap Try.prog 3 rawElem m (n + 1) (mapD (putL kv k v)) ∧ W.mapTurned (upd W m k v) m := by
  obtain ⟨w', h1, h2, h3⟩ := Rm.store hm law Try.underlying42 hn (keyInt Try.underlying3 hk) v
  have e : upd W m k v = w' := by unfold upd; rw [h1]
  rw [e]
  exact ⟨h1, h2, h3⟩
/-- All but block m lies as it lay. -/
structure ButM (W W' : World) (m : Nat) : Prop where
  os : W'.os = W.os
  tape : W'.tape = W.tape
  output : W'.output = W.output
  size : W.heap.size ≤ W'.heap.size
  block : ∀ k, k < W.heap.size → k ≠ m → W'.heap[k]? = W.heap[k]?
theorem ButM.of_below (hb : Below W.heap.size W W') : ButM W W' m := ⟨hb.os, hb.tape, hb.output, hb.size, fun k hk _ => hb.block k hk⟩
theorem ButM.turned {A B : World} (hx : ButM W A m) (ht : A.mapTurned B m) : ButM W B m := by
  obtain ⟨es, c, es', c', h1, rfl⟩ := ht
  exact ⟨hx.os, hx.tape, hx.output, by simpa [ChangeMaps.setBlock] using hx.size, fun k hk hne => by
    rw [← hx.block k hk hne]
    simp [ChangeMaps.setBlock, Array.getElem?_setIfInBounds, Array.getElem?_set, Ne.symm hne]⟩
theorem BoxAt.butM (x : BoxAt W b g m n h kv) (hb : ButM W W' m) {n' : Nat} {kv' : KV} (hm : W'.ownsMap Try.prog 3 rawElem m n' (mapD kv')) : BoxAt W' b g m n' h kv' :=
  ⟨x.hg, x.hm, (hb.block g x.lt (fun e => map_ne_cells x.mp x.blk e.symm)).trans x.blk, hm⟩
theorem Piece.butM {v : Value} {bs : List Int} (h : Piece W D v bs) (hx : ButM W W' m) {n' : Nat} {kv' : KV} (hm : W.ownsMap Try.prog 3 rawElem m n' (mapD kv')) : Piece W' D v bs :=
  h.move (fun k cs hk => hx.block k (Array.getElem?_eq_some_iff.1 hk).1 (fun e => map_ne_cells hm hk e.symm))
theorem bel_drewt {W w4 : World} (hb : Below W.drew.heap.size W.drew w4) : Below W.heap.size W w4 := (Below.refl W.heap.size W).drew.trans (show Below W.heap.size W.drew w4 from hb)
set_option maxRecDepth 100000 in
set_option maxHeartbeats 3200000 in
/-- The closure that keeps a piece. -/
theorem upto_s (x : BoxAt W b g m n h kv) {ab db ob bb : Nat} {at_ off : Int} {ad : Addr} {len cap : Nat} (xs : List Int) (hxs : xs.length = len) (ha : Boxed W ab 3 (.int .i64 at_)) (hd : Boxed W db 22 (.slice (some ad) len cap)) (ho : Boxed W ob 3 (.int .i64 off)) (hbx : Boxed W bb 23 (.pointer (some ⟨g, 0, none⟩)))
    (hbytes : ∀ i u, xs[i]? = some u → W.cell? (ad.add i) = some (.int .u8 u)) (stop : Int) (h0 : 0 ≤ off) (h1 : off ≤ at_) (h2 : at_ < stop) (h3 : stop ≤ off + len) (hcap : len ≤ cap) (hl : len ≤ 140737488355328) (hs : stop ≤ 4611686018427387903) (hn : n < maxLen) (hD : ∀ k, W.heap.size ≤ k → D k) :
    Calls Try.prog 76 #[.int .i64 stop, .pointer (some ⟨ab, 0, none⟩), .pointer (some ⟨db, 0, none⟩), .pointer (some ⟨ob, 0, none⟩), .pointer (some ⟨bb, 0, none⟩)] W fun e w' => e = .returned (.tuple #[]) ∧ ∃ v, BoxAt w' b g m (n + 1) h (putL kv at_ v) ∧ Piece w' D v ((xs.drop (at_ - off).toNat).take (stop - at_).toNat) ∧ ButM W w' m := by
  have HDN := Aside0.mk hD
  clear hD
  obtain ⟨c0, c1, c2, c3, c4, c5, c6, c7⟩ := x.c
  have ea := ha.cell
  have ed := hd.cell
  have eo := ho.cell
  have eb := hbx.cell
  have hmp := x.mp
  have hk : (Lit.int .i64 at_).wf = true := by
    have m0 : IntKind.i64.min = -9223372036854775808 := by decide +kernel
    have m1 : IntKind.i64.max = 9223372036854775807 := by decide +kernel
    simp [Lit.wf, m0, m1]
    omega
  obtain ⟨bs, hbs⟩ : ∃ bs, bs = (xs.drop (at_ - off).toNat).take (stop - at_).toNat := ⟨_, rfl⟩
  have hbl : bs.length = (stop - off).toNat - (at_ - off).toNat := by rw [hbs, List.length_take, List.length_drop]; omega
  have CL : Aside0 (∀ W1 : World, (∀ i u, xs[i]? = some u → W1.cell? (ad.add i) = some (.int .u8 u)) → Calls Try.prog 77 #[.slice (some (ad.add (at_ - off).toNat)) ((stop - off).toNat - (at_ - off).toNat) (cap - (at_ - off).toNat)] W1 fun e w' => ∃ v', e = .returned v' ∧ w'.ownsRow W1.heap.size 5 1 v' bs.length (bs.map (Value.int .u8)) ∧ Below W1.heap.size W1 w') := ⟨fun W1 hW => by
    refine (Try.bytes_Clone_at (ad.add (at_ - off).toNat) _ _ bs W1 hbl (by omega) (fun i hi => ?_)).mono ?_
    · rw [Addr.add_add]
      have hlt : i < bs.length := by omega
      have e1 : bs[i]? = xs[(at_ - off).toNat + i]? := by
        rw [hbs, List.getElem?_take, if_pos (by omega), List.getElem?_drop]
      rw [List.getD_eq_getElem?_getD]
      cases hx : bs[i]? with
      | none => rw [List.getElem?_eq_none_iff] at hx; omega
      | some u => rw [hx] at e1; exact hW _ u e1.symm
    · rintro e w' ⟨v', rfl, h1, _, h3⟩
      rw [hbl]
      exact ⟨v', rfl, h1, h3⟩⟩
  have HBY := Aside0.mk hbytes
  have HBYD : Aside0 (∀ i u, xs[i]? = some u → W.drew.cell? (ad.add i) = some (.int .u8 u)) := ⟨fun i u hu => hbytes i u hu⟩
  have HM := Aside0.mk hmp
  have X := Aside0.mk x
  have q0 : 0 ≤ at_ - off := by omega
  have q1 : at_ - off ≤ stop - off := by omega
  have q2 : stop - off ≤ (cap : Int) := by omega
  have q3 : ¬ cap = (at_ - off).toNat := by omega
  have w1 : IntKind.i64.wrap (at_ - off) = at_ - off := by rw [IntKind.wrap_i64]; omega
  have w2 : IntKind.i64.wrap (stop - off) = stop - off := by rw [IntKind.wrap_i64]; omega
  have HBS := Aside0.mk (And.intro hbs hbl)
  have HN : Aside0 (∀ W', ButM W W' m → W'.cell? ⟨g, 7, none⟩ = some (.map (some m)) ∧ W'.cell? ⟨ab, 0, none⟩ = some (.int .i64 at_) ∧ W'.cell? ⟨db, 0, none⟩ = some (.slice (some ad) len cap) ∧ W'.cell? ⟨ob, 0, none⟩ = some (.int .i64 off) ∧ W'.cell? ⟨bb, 0, none⟩ = some (.pointer (some ⟨g, 0, none⟩))) := ⟨fun W' hb => by
    refine ⟨?_, ?_, ?_, ?_, ?_⟩
    · exact (World.cell?_of_block (a := ⟨g, 7, none⟩) (hb.block g x.lt (fun e => map_ne_cells hmp x.blk e.symm))).trans c7
    · exact (World.cell?_of_block (a := ⟨ab, 0, none⟩) (hb.block ab ha.lt (fun e => map_ne_cells hmp ha e.symm))).trans ea
    · exact (World.cell?_of_block (a := ⟨db, 0, none⟩) (hb.block db hd.lt (fun e => map_ne_cells hmp hd e.symm))).trans ed
    · exact (World.cell?_of_block (a := ⟨ob, 0, none⟩) (hb.block ob ho.lt (fun e => map_ne_cells hmp ho e.symm))).trans eo
    · exact (World.cell?_of_block (a := ⟨bb, 0, none⟩) (hb.block bb hbx.lt (fun e => map_ne_cells hmp hbx e.symm))).trans eb⟩
  have hpos : 0 < bs.length := by omega
  clear x hbytes hmp ha hd ho hbx hbs hbl hxs c0 c1 c2 c3 c4 c5 c6
  go_enter Try.func76, Try.ntmps76
  go_upto_region 1 with fail
  go_region_held3 (fun w' => w'.cell? ⟨g, 7, none⟩ = some (.map (some m)) ∧ w'.cell? ⟨ab, 0, none⟩ = some (.int .i64 at_) ∧ w'.cell? ⟨db, 0, none⟩ = some (.slice (some ad) len cap) ∧ w'.cell? ⟨ob, 0, none⟩ = some (.int .i64 off) ∧ w'.cell? ⟨bb, 0, none⟩ = some (.pointer (some ⟨g, 0, none⟩)))
    (first | exact ⟨c7, ea, ed, eo, eb⟩ | (simp [go_sem, *]; done))
    (first | (go_at_call 77; (refine (CL.out W.drew HBYD.out).mono ?_); rintro e w4 ⟨v', rfl, ho, hb⟩; have HB4 := Aside0.mk (bel_drewt hb); have HO4 := Aside0.mk ho; have HU := Aside0.mk (upd_run (HM.out.kept (grown_of_below HB4.out none) (by simp)) hn hk v'); have hup := HU.out.1; have HBM := Aside0.mk ((ButM.of_below (m := m) HB4.out).turned HU.out.2.2); obtain ⟨u7, ua, ud, uo, ub⟩ := HN.out _ HBM.out; have n7 := pw_cell_below HB4.out c7; have na := pw_cell_below HB4.out ea; have nd := pw_cell_below HB4.out ed; have no := pw_cell_below HB4.out eo; have nb := pw_cell_below HB4.out eb; clear ho hb c7 ea ed eo eb; have c7 := n7; have ea := na; have ed := nd; have eo := no; have eb := nb; clear n7 na nd no nb))
  go_wp2_with fail
  go_end0
  have hpc : Piece (upd w4 m at_ v') (fun k => W.heap.size ≤ k) v' bs := (piece_of_row (D := fun k => W.heap.size ≤ k) HO4.out hpos (fun k hk => hk)).butM ((ButM.of_below (m := m) (Below.refl _ w4)).turned HU.out.2.2) (HM.out.kept (grown_of_below HB4.out none) (by simp))
  rw [HBS.out.1] at hpc
  exact ⟨rfl, v', X.out.butM HBM.out HU.out.2.1, hpc.mono (fun k _ hk => HDN.out k hk), HBM.out⟩
end Go.Proofs.Ytakmcbakogjeeaa.Ib
