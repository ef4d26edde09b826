/- Parameters (layer 3): what a map of said values holds; PutVar and lay in plain words; no condition. -/
import Derived.Test.YtcidijmdndcdlaaDoorPr4
import Derived.Test.YtcidijmdndcdlaaDoorPrOct
import Derived.Test.YtcidijmdndcdlaaDoorRawMap
set_option linter.unusedVariables false
set_option linter.unusedSimpArgs false
namespace Go.Proofs.YtcidijmdndcdlaaDoor.Pr
open Go Go.RowKit Go.Maps Go.Proofs.YtcidijmdndcdlaaDoor.Pm Go.Proofs.YtcidijmdndcdlaaDoor.Rm Go.Proofs.YtcidijmdndcdlaaDoor.OctM
open Go.Proofs.YtcidijmdndcdlaaDoorW.PrintWords Go.Proofs.YtcidijmdndcdlaaDoorW.PrintLast Go.Proofs.YtcidijmdndcdlaaDoorW.PrintMore
variable {W W' W0 : World} {g b m n : Nat} {p : Pm} {vo vf va : Value} {kv : KV}
/-- A slice that holds these bytes. -/
def Sl (W : World) (v : Value) (xs : List Int) : Prop := ∃ A c, v = .slice A xs.length c ∧ xs.length ≤ c ∧ Kd.C (Kd.int .u8) W A xs.length xs
/-- What is a cell is the same cell. -/
def Sames (W W' : World) : Prop := ∀ a v, W.cell? a = some v → W'.cell? a = some v
theorem Sames.of_below (hb : Below W.heap.size W W') : Sames W W' := fun a v h => Bl.cell hb h
theorem Sl.same {v : Value} {xs : List Int} (h : Sl W v xs) (hs : Sames W W') : Sl W' v xs := by
  obtain ⟨A, c, hv, hc, h1, h2, h3⟩ := h
  refine ⟨A, c, hv, hc, h1, h2, fun hn => ?_⟩
  obtain ⟨ad, e, hq⟩ := h3 hn
  refine ⟨ad, e, fun j x hj => ?_⟩
  obtain ⟨cs, l, r, f⟩ := hq j x hj
  exact ⟨cs, l, r, fun i u hu => hs _ _ (f i u hu)⟩
theorem Sl.below {v : Value} {xs : List Int} (h : Sl W v xs) (hb : Below W.heap.size W W') : Sl W' v xs := h.same (Sames.of_below hb)
theorem sl_nil (W : World) : Sl W nilS [] := ⟨none, 0, rfl, Nat.le_refl _, Kd.C_nil _ _⟩
theorem sl_of_R {e base : Nat} {ok : Nat → Prop} {v : Value} {xs : List Int} (h : (Kd.int .u8).R e W base ok v xs) : Sl W v xs := by
  obtain ⟨A, c, h1, h2, h3⟩ := Kd.R_reads h
  exact ⟨A, c, h1, h2, h3⟩
theorem gl_same (h : GL W) (hs : Sames W W') : GL W' := by
  obtain ⟨h0, h1, h2, h3⟩ := h
  exact ⟨hs _ _ h0, hs _ _ h1, hs _ _ h2, hs _ _ h3⟩
/-- All but block m lies as it lay. -/
structure ButM (W W' : World) (m : Nat) : Prop where
  os : W'.os = W.os
  tape : W'.tape = W.tape
  output : W'.output = W.output
  size : W.heap.size ≤ W'.heap.size
  block : ∀ k, k < W.heap.size → k ≠ m → W'.heap[k]? = W.heap[k]?
theorem ButM.of_below (hb : Below W.heap.size W W') : ButM W W' m := ⟨hb.os, hb.tape, hb.output, hb.size, fun k hk _ => hb.block k hk⟩
theorem ButM.turned {A B : World} (hx : ButM W A m) (ht : A.mapTurned B m) : ButM W B m := by
  obtain ⟨es, c, es', c', h1, rfl⟩ := ht
  exact ⟨hx.os, hx.tape, hx.output, by simpa [ChangeMaps.setBlock] using hx.size, fun k hk hne => by
    rw [← hx.block k hk hne]
    simp [ChangeMaps.setBlock, Array.getElem?_setIfInBounds, Array.getElem?_set, Ne.symm hne]⟩
theorem ButM.bel {B : Nat} (hx : ButM W W' m) (hb : Below B W0 W) (hm : B ≤ m) (hB : B ≤ W.heap.size) : Below B W0 W' :=
  ⟨hx.os.trans hb.os, hx.tape.trans hb.tape, hx.output.trans hb.output, Nat.le_trans hb.size hx.size, fun k hk => (hx.block k (by omega) (by omega)).trans (hb.block k hk)⟩
theorem law : Keyed Tryd.prog 3 := int_keyed Tryd.underlying3
theorem map_ne_cells {b' : Nat} {n' : Nat} {kv' : KV} (hm : W.ownsMap Tryd.prog 3 rawElem b' n' (mapD kv')) {k : Nat} {cs : Array Value} {t : TypeId} {z : Nat × Nat} (hk : W.heap[k]? = some (.cells cs t z)) : b' ≠ k := by
  rintro rfl
  obtain ⟨es, clock, hb, _⟩ := hm
  rw [hb] at hk
  cases hk
theorem ButM.sames (hx : ButM W W' m) {n' : Nat} {kv' : KV} (hm : W.ownsMap Tryd.prog 3 rawElem m n' (mapD kv')) : Sames W W' := fun a v h => by
  have hlt := World.block_lt_of_cell? W a h
  refine (World.cell?_of_block (hx.block a.block hlt ?_)).trans h
  intro e
  unfold World.cell? at h
  cases ho : W.heap[a.block]? with
  | none => rw [ho] at h; simp at h
  | some o =>
    cases o with
    | cells cs t z => exact map_ne_cells hm ho e.symm
    | _ => rw [ho] at h; simp at h
/-- What mapUpdate leaves. -/
noncomputable def upd (W : World) (m : Nat) (k : Int) (v : Value) : World := match (Instr.mapUpdate 52 (.map (some m)) (.int .i64 k) v).run Tryd.prog W with | .ok _ w' => w' | _ => W
theorem upd_run (hm : W.ownsMap Tryd.prog 3 rawElem m n (mapD kv)) (hn : n < maxLen) {k : Int} (hk : (Lit.int .i64 k).wf = true) (v : Value) :
    (Instr.mapUpdate 52 (.map (some m)) (.int .i64 k) v).run Tryd.prog W = .ok () (upd W m k v) ∧ (upd W m k v).ownsMap Tryd.prog 3 rawElem m (n + 1) (mapD (putL kv k v)) ∧ W.mapTurned (upd W m k v) m := by
  obtain ⟨w', h1, h2, h3⟩ := Rm.store hm law Tryd.underlying52 hn (keyInt Tryd.underlying3 hk) v
  have e : upd W m k v = w' := by unfold upd; rw [h1]
  rw [e]
  exact ⟨h1, h2, h3⟩
/-- What the map says, number by number. -/
def Holds (W : World) (f : Int → Option (List Int)) (kv : KV) : Prop := ∀ id, match f id with | none => getL kv id = none | some xs => ∃ v, getL kv id = some v ∧ Sl W v xs
theorem Holds.same {f : Int → Option (List Int)} (h : Holds W f kv) (hs : Sames W W') : Holds W' f kv := fun id => by
  have := h id
  revert this
  cases f id with
  | none => exact fun h => h
  | some xs => exact fun ⟨v, h1, h2⟩ => ⟨v, h1, h2.same hs⟩
theorem Holds.put {f f' : Int → Option (List Int)} (h : Holds W f kv) {k : Int} {v : Value} {xs : List Int} (hv : Sl W v xs) (hf : ∀ j, f' j = if j = k then some xs else f j) : Holds W f' (putL kv k v) := fun id => by
  rw [hf id]
  by_cases e : id = k
  · subst e
    rw [if_pos rfl]
    exact ⟨v, getL_put_same kv id v, hv⟩
  · rw [if_neg e, getL_put_other kv v e]
    exact h id
/-- Put under way: the struct in block g, the map in block m. -/
structure PuSt (W0 W : World) (g m n : Nat) (kv : KV) (f : Int → Option (List Int)) (p : Pm) (vo vf va : Value) : Prop where
  bel : Below W0.heap.size W0 W
  pm : PmAt W g p vo vf va
  mp : W.ownsMap Tryd.prog 3 rawElem m n (mapD kv)
  said : Holds W f kv
  gl : GL W
  so : Sl W vo p.orig
  sf : Sl W vf p.first
  sa : Sl W va p.again
  lm : W0.heap.size ≤ m
  lg : W0.heap.size ≤ g
theorem PuSt.below {f : Int → Option (List Int)} (h : PuSt W0 W g m n kv f p vo vf va) (hb : Below W.heap.size W W') : PuSt W0 W' g m n kv f p vo vf va :=
  ⟨Bl.then h.bel hb, h.pm.below hb h.pm.lt, h.mp.kept (grown_of_below hb none) (by simp), h.said.same (Sames.of_below hb), gl_same h.gl (Sames.of_below hb), h.so.below hb, h.sf.below hb, h.sa.below hb, h.lm, h.lg⟩
theorem PuSt.put {f f' : Int → Option (List Int)} (h : PuSt W0 W g m n kv f p vo vf va) (hn : n < maxLen) {k : Int} (hk : (Lit.int .i64 k).wf = true) {v : Value} {xs : List Int} (hv : Sl W v xs) (hf : ∀ j, f' j = if j = k then some xs else f j) :
    (Instr.mapUpdate 52 (.map (some m)) (.int .i64 k) v).run Tryd.prog W = .ok () (upd W m k v) ∧ PuSt W0 (upd W m k v) g m (n + 1) (putL kv k v) f' p vo vf va ∧ ButM W (upd W m k v) m := by
  obtain ⟨h1, h2, h3⟩ := upd_run h.mp hn hk v
  have hx : ButM W (upd W m k v) m := (ButM.of_below (Below.refl _ W)).turned h3
  have hs := hx.sames h.mp
  refine ⟨h1, ⟨hx.bel h.bel h.lm h.bel.size, (hx.block g h.pm.lt (fun e => map_ne_cells h.mp h.pm e.symm)).trans h.pm, h2, (h.said.put hv hf).same hs, gl_same h.gl hs, h.so.same hs, h.sf.same hs, h.sa.same hs, h.lm, h.lg⟩, hx⟩
/-- The Reset's bytes as a slice of the struct. -/
theorem PmAt.resetSl (h : PmAt W g p vo vf va) (hs : Sz p) : Sl W (.slice (some ⟨g, 17, none⟩) 16 16) p.reset := by
  refine ⟨some ⟨g, 17, none⟩, 16, by rw [hs.r], by rw [hs.r]; exact Nat.le_refl _, Kd.C_of_reads (d := (0 : Int)) (h1 := fun _ => rfl) ⟨rfl, by rw [hs.r]; decide, fun hn => ⟨_, rfl, fun j hj => ?_⟩⟩⟩
  have hx : p.reset[j]? = some (p.reset.getD j 0) := by rw [List.getD_eq_getElem?_getD, List.getElem?_eq_getElem hj]; rfl
  have := (row_at hs vo vf va).2.2.2.2.2.2.1 j _ hx
  rw [show (⟨g, 17, none⟩ : Addr).add j = ⟨g, 17 + j, none⟩ by unfold Addr.add; simp, cell_of_row W g _ _ _ _ h]
  exact this
/-- PutVar behind nothing. -/
theorem putnil_s (hG : GL W) (v : Int) (h0 : 0 ≤ v) (h1 : v ≤ top) : Calls Tryd.prog 20 #[.slice none 0 0, .int .i64 v] W fun e w' =>
    ∃ s, e = .returned (.tuple #[s, .int .i64 0]) ∧ Sl w' s (encV v) ∧ Below W.heap.size W w' := by
  have hf := putVar_f [] v h0 h1 (by simp)
  rw [List.nil_append] at hf
  refine (QOct.octet_PutVar.calls 12 none 0 [] v _ _ W (Kd.C_nil _ _) (Nat.le_refl _) hG hf).mono ?_
  rintro e w' ⟨s, rfl, hr, hb⟩
  exact ⟨s, rfl, sl_of_R hr, hb⟩
/-- A parameter laid behind others. -/
theorem lay_s (hG : GL W) {vb vv : Value} {xs ys : List Int} (hb : Sl W vb xs) (hv : Sl W vv ys) (id : Int) (h0 : 0 ≤ id) (h1 : id ≤ top) (hx : xs.length ≤ 100000000) (hy : ys.length ≤ 100000000) :
    Calls Tryd.prog 21 #[vb, .int .i64 id, vv] W fun e w' => ∃ s, e = .returned s ∧ Sl w' s (xs ++ layE encV (id, ys)) ∧ Below W.heap.size W w' ∧ (Kd.int .u8).R 5 w' W.heap.size (fun _ => True) s (xs ++ layE encV (id, ys)) := by
  obtain ⟨A, c, rfl, hc, hC⟩ := hb
  obtain ⟨A2, c2, rfl, hc2, hC2⟩ := hv
  have l1 := codec.len id h0 h1
  have l2 := codec.len ys.length (by omega) (by unfold top; omega)
  have hf : QOct.params_lay.f 12 xs id ys = some (xs ++ layE encV (id, ys)) := by
    unfold QOct.params_lay.f
    rw [putVar_f xs id h0 h1 (by omega), Option.bind_some, putVar_f _ _ (by omega) (by unfold top; omega) (by simp only [List.length_append]; omega), Option.bind_some, if_pos (by simp only [List.length_append]; omega)]
    simp [layE]
  refine (QOct.params_lay.calls 12 A c xs id A2 c2 ys _ W hC hc hC2 hc2 hG hf).mono ?_
  rintro e w' ⟨s, rfl, hr, hb⟩
  exact ⟨s, rfl, sl_of_R hr, hb, hr⟩
end Go.Proofs.YtcidijmdndcdlaaDoor.Pr
