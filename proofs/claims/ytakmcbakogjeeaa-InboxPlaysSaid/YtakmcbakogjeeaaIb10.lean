/- Boxes (layer 6): Read; no condition. -/
import Derived.Test.YtakmcbakogjeeaaIb9
import Derived.Test.YtakmcbakogjeeaaIb8
import Derived.Test.YtakmcbakogjeeaaIb8
import Derived.Test.YtakmcbakogjeeaaIb8
import Derived.Test.YtakmcbakogjeeaaIb8
import Derived.Test.YtakmcbakogjeeaaIb8
set_option linter.unusedVariables false
set_option linter.unusedSimpArgs false
namespace Go.Proofs.Ytakmcbakogjeeaa.Ib
open Go Go.RowKit Go.Maps Go.Proofs.Ytakmcbakogjeeaa.Rm
open Go.Proofs.YtakmcbakogjeeaaW.PrintWords Go.Proofs.YtakmcbakogjeeaaW.PrintLast Go.Proofs.YtakmcbakogjeeaaW.PrintMore
variable {W W' : World} {b g m n : Nat} {D : Nat → Prop} {h : Hd} {kv : KV} {P : List Pc}
theorem run_min (x y : Int) (W : World) : (Builtin.min_ #[3, 3] 3 #[.int .i64 x, .int .i64 y]).run Try.prog W = .ok (.int .i64 (min x y)) W := by
  have h : (if y < x then y else x) = min x y := by split <;> omega
  rw [← h]
  simp [Builtin.min_, Builtin.min2, go_sem]
/-- What delete leaves. -/
noncomputable def dlt (W : World) (m : Nat) (k : Int) : World := match (Builtin.delete_ #[42, 3] 0 #[.map (some m), .int .i64 k]).run Try.prog W with | .ok _ w' => w' | _ => W
theorem dlt_run (hm : W.ownsMap Try.prog 3 rawElem m n (mapD kv)) {k : Int} (hk : (Lit.int .i64 k).wf = true) :
    (∀ ty, (Builtin.delete_ #[42, 3] ty #[.map (some m), .int .i64 k]).run Try.prog W = .ok (.tuple #[]) (dlt W m k)) ∧ (dlt W m k).ownsMap Try.prog 3 rawElem m n (mapD (delL kv k)) ∧ W.mapTurned (dlt W m k) m := by
  obtain ⟨w', h1, h2, h3⟩ := Rm.drop hm law Try.underlying42 (keyInt Try.underlying3 hk) 0
  have e : dlt W m k = w' := by unfold dlt; rw [h1]
  rw [e]
  exact ⟨fun ty => h1, h2, h3⟩
theorem del_head {v : Value} {k : Int} (h : ∀ p ∈ kv, k < p.1) : delL ((k, v) :: kv) k = kv := by
  unfold delL
  rw [List.filter_cons, if_neg (by simp), List.filter_eq_self]
  intro p hp
  have := h p hp
  simp
  omega
theorem put_head {v : Value} {k : Int} (h : ∀ p ∈ kv, k < p.1) : putL kv k v = (k, v) :: kv := by
  have := put_mid (A := []) (B := kv) (k := k) v (fun p hp => by cases hp) h
  simpa using this
theorem Piece.tail {blk po len pc : Nat} {bs : List Int} (h : Piece W D (.slice (some ⟨blk, po, none⟩) len pc) bs) {k : Nat} (hk : k < bs.length) : Piece W D (.slice (some ⟨blk, po + k, none⟩) (bs.length - k) (pc - k)) (bs.drop k) := by
  obtain ⟨blk', off, c, cs, hv, h1, h2, h3, h4, h5⟩ := h
  injection hv with e1 e2 e3
  injection e1 with e1
  injection e1 with e1 e4
  subst e1; subst e4; subst e3
  refine ⟨blk, po + k, pc - k, cs, by rw [List.length_drop], h1, by rw [List.length_drop]; omega, by omega, h4, fun i u hu => ?_⟩
  rw [List.getElem?_drop] at hu
  rw [Nat.add_assoc]
  exact h5 _ _ hu
theorem Frm.setg (h : Frm W W' m g) (i : Nat) (v : Value) : Frm W (W'.setCell ⟨g, i, none⟩ v) m g := ⟨h.os, h.tape, h.output, by simpa [World.setCell] using h.size, fun k hk h1 h2 => (Below.heap_setCell W' ⟨g, i, none⟩ v k h2).trans (h.block k hk h1 h2)⟩
theorem own_butM {base e : Nat} {v : Value} {N : Nat} {us : List Value} (ho : W.ownsRow base e 1 v N us) (hx : ButM W W' m) {n' : Nat} {kv' : KV} (hm : W.ownsMap Try.prog 3 rawElem m n' (mapD kv')) : W'.ownsRow base e 1 v N us := by
  refine ⟨ho.1, ?_⟩
  rcases ho.2 with h0 | ⟨g', c', cur, hv, hb', hgg, r⟩
  · exact .inl h0
  · exact .inr ⟨g', c', cur, hv, hb', (hx.block g' (Array.getElem?_eq_some_iff.1 hgg).1 (fun e => map_ne_cells hm hgg e.symm)).trans hgg, r⟩
theorem own_setg {base e : Nat} {v : Value} {N : Nat} {us : List Value} (ho : W.ownsRow base e 1 v N us) (hgb : g < base) (i : Nat) (u : Value) : (W.setCell ⟨g, i, none⟩ u).ownsRow base e 1 v N us := by
  refine ⟨ho.1, ?_⟩
  rcases ho.2 with h0 | ⟨g', c', cur, hv, hb', hgg, r⟩
  · exact .inl h0
  · exact .inr ⟨g', c', cur, hv, hb', (Below.heap_setCell W ⟨g, i, none⟩ u g' (by simp only; omega)).trans hgg, r⟩
theorem Piece.moveD {v : Value} {bs : List Int} (h : Piece W D v bs) (hm : ∀ k, k < W.heap.size → D k → W'.heap[k]? = W.heap[k]?) : Piece W' D v bs := by
  obtain ⟨blk, off, c, cs, hv, h1, h2, h3, h4, h5⟩ := h
  exact ⟨blk, off, c, cs, hv, h1, h2, h3, (hm blk (Array.getElem?_eq_some_iff.1 h4).1 h1).trans h4, h5⟩
theorem Pcs.moveD : ∀ {kv : KV} {P : List Pc}, Pcs W D kv P → (∀ k, k < W.heap.size → D k → W'.heap[k]? = W.heap[k]?) → Pcs W' D kv P
  | [], [], _, _ => trivial
  | p :: kv, q :: P, ⟨h1, h2, h3⟩, hm => ⟨h1, h2.moveD hm, h3.moveD hm⟩
  | [], _ :: _, h, _ => h.elim
  | _ :: _, [], h, _ => h.elim
theorem BoxAt.grown {ob : Option Nat} (x : BoxAt W b g m n h kv) (h2 : W.grownBy W' ob) (hg : some g ≠ ob) (hm : some m ≠ ob) : BoxAt W' b g m n h kv :=
  ⟨x.hg, x.hm, (h2.block g x.lt hg).trans x.blk, x.mp.kept h2 hm⟩
theorem Frm.grown {W2 : World} {ob : Option Nat} (hf : Frm W W' m g) (h2 : W'.grownBy W2 ob) (ho : ∀ k, ob = some k → W.heap.size ≤ k) : Frm W W2 m g :=
  ⟨h2.os.trans hf.os, h2.tape.trans hf.tape, h2.output.trans hf.output, Nat.le_trans hf.size h2.size, fun k hk h3 h4 => (h2.block k (Nat.lt_of_lt_of_le hk hf.size) (fun e => by have := ho k e.symm; omega)).trans (hf.block k hk h3 h4)⟩
theorem Frm.drew (hf : Frm W W' m g) : Frm W W'.drew m g := ⟨hf.os, hf.tape, hf.output, hf.size, hf.block⟩
theorem BoxAt.drew (x : BoxAt W b g m n h kv) : BoxAt W.drew b g m n h kv := ⟨x.hg, x.hm, x.blk, x.mp.drew⟩
theorem Pcs.drew {kv : KV} {P : List Pc} (h : Pcs W D kv P) : Pcs W.drew D kv P := h.moveD (fun _ _ _ => rfl)
theorem Pcs.setg {kv : KV} {P : List Pc} (h : Pcs W D kv P) {h' : Hd} {kv' : KV} (x : BoxAt W b g m n h' kv') (i : Nat) (v : Value) : Pcs (W.setCell ⟨g, i, none⟩ v) D kv P :=
  h.move (fun k cs hk => Below.heap_setCell W ⟨g, i, none⟩ v k (by rintro rfl; rw [x.blk] at hk; injection hk with hk; injection hk with _ hk; exact absurd hk (by decide)))
theorem map_lt (x : BoxAt W b g m n h kv) : m < W.heap.size := by
  obtain ⟨es, clock, hb, _⟩ := x.mp
  exact (Array.getElem?_eq_some_iff.1 hb).1
theorem own_typed {base e N : Nat} {v : Value} {us : List Value} (ho : W.ownsRow base e 1 v N us) (k : Nat) (hk : v.ownBlock = some k) : base ≤ k ∧ ∃ cs, W.heap[k]? = some (.cells cs e (0, 0)) := by
  rcases ho.2 with ⟨rfl, _⟩ | ⟨g', c, cur, rfl, hbb, hg, _⟩
  · simp [Value.ownBlock] at hk
  · have : g' = k := by simpa [Value.ownBlock] using hk
    subst this
    exact ⟨hbb, cur, hg⟩
theorem own_form {base e N : Nat} {v : Value} {us : List Value} (ho : W.ownsRow base e 1 v N us) : ∃ A c, v = .slice A N c ∧ N ≤ c := by
  rcases ho.2 with ⟨rfl, h0⟩ | ⟨g', c, cur, rfl, hbb, hg, hnc, _⟩
  · subst h0; exact ⟨none, 0, rfl, Nat.le_refl _⟩
  · exact ⟨_, c, rfl, hnc⟩
theorem news_of {blk po len pc : Nat} {bs : List Int} (h : Piece W D (.slice (some ⟨blk, po, none⟩) len pc) bs) : ∀ j u, (bs.map (Value.int .u8))[j]? = some u → W.cell? ((⟨blk, po, none⟩ : Addr).add j) = some u := by
  obtain ⟨blk', off, c, hv, _, _, _, _, hc⟩ := h.cell
  injection hv with e1 _ _
  injection e1 with e1
  injection e1 with e1 e2
  subst e1; subst e2
  intro j u hu
  rw [List.getElem?_map] at hu
  cases hb : bs[j]? with
  | none => rw [hb] at hu; cases hu
  | some y => rw [hb] at hu; injection hu with hu; subst hu; exact hc j y hb
theorem news_take {blk po len pc : Nat} {bs : List Int} (h : Piece W D (.slice (some ⟨blk, po, none⟩) len pc) bs) (q : Nat) : ∀ j u, ((bs.take q).map (Value.int .u8))[j]? = some u → W.cell? ((⟨blk, po, none⟩ : Addr).add j) = some u := fun j u hu => by
  refine news_of h j u ?_
  rw [List.map_take, List.getElem?_take] at hu
  split at hu
  · exact hu
  · cases hu
theorem one_u8 {l : List Int} {u : Value} (h : u ∈ l.map (Value.int .u8)) : u.oneCell' = true := by
  obtain ⟨y, _, rfl⟩ := List.mem_map.1 h
  rfl
theorem info8 : (Try.prog.info? 5).map (fun i => (i.zero, i.size, i.bytes)) = some (some (.int .u8 0), 1, 1) := by kernel_rfl
/-- Under way: these bytes are read. -/
def RdRel (W0 : World) (D : Nat → Prop) (b g m : Nat) (h : Hd) (P : List Pc) (N : Int) (dv : Value) (wr : World) : Prop :=
  ∃ (out : List Int) (A : Option Addr) (c : Nat) (pl : Int) (kv : KV) (P' : List Pc), dv = .slice A out.length c ∧ wr.ownsRow W0.heap.size 5 1 (.slice A out.length c) out.length (out.map (Value.int .u8)) ∧ BoxAt wr b g m kv.length { h with place := pl } kv ∧ Pcs wr (fun k => D k ∧ k < W0.heap.size) kv P' ∧ OkP pl P' ∧
    readP h.place N P = (out ++ (readP pl (N - out.length) P').1, (readP pl (N - out.length) P').2) ∧ h.place ≤ pl ∧ pl ≤ 4611686018427387903 ∧ (∀ p ∈ P', p.1 + p.2.length ≤ 4611686018427387903) ∧ out.length + heldP P' ≤ heldP P ∧ P'.length ≤ P.length ∧ Frm W0 wr m g
theorem rd_here {pl N : Int} {P : List Pc} (h : N ≤ 0) : readP pl N P = ([], pl, P) := by
  cases P with
  | nil => rfl
  | cons p r => rw [readP, if_pos (.inl h)]
theorem rd_none {pl N : Int} {P : List Pc} (h : ∀ p r, P = p :: r → p.1 ≠ pl) : readP pl N P = ([], pl, P) := by
  cases P with
  | nil => rfl
  | cons p r => rw [readP, if_pos (.inr (h p r rfl))]
theorem rd_all {pl N : Int} {bs : List Int} {r : List Pc} (h : 0 < N) (hb : (bs.length : Int) ≤ N) : readP pl N ((pl, bs) :: r) = (bs ++ (readP (pl + bs.length) (N - bs.length) r).1, (readP (pl + bs.length) (N - bs.length) r).2) := by
  rw [readP, if_neg (by simp only; omega), if_pos hb]
theorem rd_part {pl N : Int} {bs : List Int} {r : List Pc} (h : 0 < N) (hb : ¬ (bs.length : Int) ≤ N) : readP pl N ((pl, bs) :: r) = (bs.take N.toNat, pl + N, (pl + N, bs.drop N.toNat) :: r) := by
  rw [readP, if_neg (by simp only; omega), if_neg hb]
set_option maxRecDepth 100000 in
set_option maxHeartbeats 12800000 in
theorem read_s (x : BoxAt W b g m n h kv) (hP : Pcs W D kv P) (hok : OkP h.place P) (hpl0 : 0 ≤ h.place) (hpl : h.place ≤ 4611686018427387903) (hends : ∀ p ∈ P, p.1 + p.2.length ≤ 4611686018427387903) (hheld : heldP P ≤ 1048576) (hfew : P.length ≤ 1048576)
    (hr0 : 0 ≤ h.room) (hr1 : h.room ≤ 1048576) (hl0 : 0 ≤ h.limit) (hl1 : h.limit ≤ 4611686019427387903) (hbw : b ≤ W.heap.size) (N : Int) (hN0 : -9223372036854775808 ≤ N) (hN1 : N ≤ 9223372036854775807) :
    Calls Try.prog 20 #[.pointer (some ⟨g, 0, none⟩), .int .i64 N] W fun e w' => ∃ A c kv', e = .returned (.tuple #[.slice A (readP h.place N P).1.length c, .bool (h.known && ((readP h.place N P).2.1 == h.final))]) ∧
      w'.ownsRow W.heap.size 5 1 (.slice A (readP h.place N P).1.length c) (readP h.place N P).1.length ((readP h.place N P).1.map (Value.int .u8)) ∧
      BoxAt w' b g m kv'.length { h with place := (readP h.place N P).2.1, limit := max h.limit ((readP h.place N P).2.1 + h.room) } kv' ∧ Pcs w' (fun k => D k ∧ k < W.heap.size) kv' (readP h.place N P).2.2 ∧ Frm W w' m g := by
  have hgl := x.lt
  have hml := map_lt x
  have X0 := Aside0.mk (BoxAt.tight x)
  have PS := Aside0.mk (hP.mono (D := fun k => D k ∧ k < W.heap.size) (fun k hk hd => ⟨hd, hk⟩))
  have HOK := Aside0.mk hok
  have HEN := Aside0.mk hends
  obtain ⟨c0, c1, c2, c3, c4, c5, c6, c7⟩ := x.c
  clear x hP hok hends
  go_enter Try.func20, Try.ntmps20
  go_wp2_with (go_at_call 74; (with_reducible refine (none_s X0.out).mono ?_); rintro e w' ⟨rfl, rfl⟩)
  go_loopw [4, 6, 7, 8] (fun dv _ _ _ wr => RdRel W D b g m h P N dv wr) (fun dv _ _ _ wr => match dv with | .slice _ k _ => (N - k).toNat | _ => 0)
  case atStart => exact ⟨[], none, 0, h.place, kv, P, rfl, World.ownsRow_nil _ _ _ _, X0.out, PS.out, HOK.out, by simp, Int.le_refl _, hpl, HEN.out, by simp, Nat.le_refl _, Frm.refl _ _ _⟩
  case round =>
    clear c0 c1 c2 c3 c4 c5 c6 c7 X0 PS HOK HEN
    obtain ⟨out, A, c, pl, kv, P', rfl, hown, hx, hP, hok, hrd, hp0, hp1, hends, hsum, hcnt, hfr⟩ := hrel
    have HO := Aside0.mk hown
    have X := Aside0.mk hx
    have HRD := Aside0.mk hrd
    have HEN := Aside0.mk hends
    have HFR := Aside0.mk hfr
    have hol : out.length ≤ 1048576 := by omega
    have hoc : out.length ≤ c := by
      rcases hown.2 with ⟨hv, h0⟩ | ⟨g', c', cur, hv, hb', hgg, hnc, _⟩
      · omega
      · injection hv with _ _ hv2; subst hv2; exact hnc
    have HOB : Aside0 (∀ k, (Value.slice A out.length c).ownBlock = some k → W.heap.size ≤ k) := ⟨fun k hk => (own_typed HO.out k hk).1⟩
    clear hown hx hrd hends hfr
    by_cases hlt : (out.length : Int) < N
    · obtain ⟨c0, c1, c2, c3, c4, c5, c6, c7⟩ := X.out.c
      simp only at c1 c2 c3 c4 c5 c6
      have hlk := look_at X.out.mp.drew (k := pl) (wf_of (by omega) (by omega))
      rcases get_head hP hok with ⟨g1, g2, g3⟩ | ⟨v, bs, kv', r, rfl, rfl, hp, hP', hg⟩
      · rw [g1] at hlk
        have G3 := Aside0.mk g3
        have PS := Aside0.mk hP
        clear g1 g2 g3 hP hok
        go_upto_region 4 with fail
        go_region
        go_upto_region 12 with fail
        have n1 := Aside0.mk X.out.drew
        have n2 : Aside0 (wr.drew.ownsRow W.heap.size 5 1 (.slice A out.length c) out.length (out.map (Value.int .u8))) := ⟨HO.out⟩
        have n3 := Aside0.mk PS.out.drew
        have n4 := Aside0.mk HFR.out.drew
        obtain ⟨wt, hwt⟩ : ∃ wt, wr.drew = wt := ⟨_, rfl⟩
        rw [hwt] at n1 n2 n3 n4 ⊢
        clear hwt hlk c0 c1 c2 c3 c4 c5 c6 c7 X HO PS HFR
        have X := n1
        have HO := n2
        have PS := n3
        have HFR := n4
        clear n1 n2 n3 n4
        have HRR : Aside0 (readP h.place N P = (out, pl, P')) := ⟨by rw [HRD.out, rd_none G3.out, List.append_nil]⟩
        have m1 := run_mx h.limit (pl + h.room)
        obtain ⟨lim, hlim⟩ : ∃ lim, max h.limit (pl + h.room) = lim := ⟨_, rfl⟩
        rw [hlim] at m1
        have HLIM := Aside0.mk hlim
        obtain ⟨c0, c1, c2, c3, c4, c5, c6, c7⟩ := X.out.c
        have f3 := X.out.free 3
        simp only at c1 c2 c3 c4 c5 c6
        clear hlim
        go_region
        have hbx : BoxAt (wt.setCell ⟨g, 3, none⟩ (.int .i64 lim)).drew b g m kv.length { h with place := pl, limit := lim } kv := (X.out.put 3 (.int .i64 lim) { h with place := pl, limit := lim } rfl).drew
        have ho2 : (wt.setCell ⟨g, 3, none⟩ (.int .i64 lim)).drew.ownsRow W.heap.size 5 1 (.slice A out.length c) out.length (out.map (Value.int .u8)) := own_setg HO.out hgl 3 (.int .i64 lim)
        have ps2 : Pcs (wt.setCell ⟨g, 3, none⟩ (.int .i64 lim)).drew (fun k => D k ∧ k < W.heap.size) kv P' := (PS.out.setg X.out 3 _).drew
        have fr2 : Frm W (wt.setCell ⟨g, 3, none⟩ (.int .i64 lim)).drew m g := (HFR.out.setg 3 _).drew
        obtain ⟨W2, hW2⟩ : ∃ W2, (wt.setCell ⟨g, 3, none⟩ (.int .i64 lim)).drew = W2 := ⟨_, rfl⟩
        rw [hW2] at hbx ho2 ps2 fr2 ⊢
        clear hW2 c0 c1 c2 c3 c4 c5 c6 c7 f3 X HO PS HFR m1
        have X := Aside0.mk hbx
        have HO := Aside0.mk ho2
        have PS := Aside0.mk ps2
        have HFR := Aside0.mk fr2
        obtain ⟨c0, c1, c2, c3, c4, c5, c6, c7⟩ := X.out.c
        simp only at c1 c2 c3 c4 c5 c6
        clear hbx ho2 ps2 fr2
        go_upto_region 13 with fail
        cases hkn : h.known with
        | false =>
          rw [hkn] at c6
          have HKN := Aside0.mk hkn
          clear hkn
          go_quiet (fail)
          go_wp2_with fail
          go_ret2
          rw [HRR.out, HLIM.out]
          first
            | exact ⟨A, c, kv, by rw [HKN.out]; rfl, own_butM HO.out (ButM.of_below (m := m) (bl_drewN nq)) X.out.mp, X.out.below (bl_drewN nq), PS.out.below (bl_drewN nq), HFR.out.then (bl_drewN nq)⟩
            | exact ⟨A, c, by rw [HKN.out]; rfl, own_butM HO.out (ButM.of_below (m := m) (bl_drewN nq)) X.out.mp, kv, X.out.below (bl_drewN nq), PS.out.below (bl_drewN nq), HFR.out.then (bl_drewN nq)⟩
        | true =>
          rw [hkn] at c6
          have HKN := Aside0.mk hkn
          clear hkn
          go_quiet (fail)
          go_wp2_with fail
          go_ret2
          rw [HRR.out, HLIM.out]
          first
            | exact ⟨A, c, kv, by rw [HKN.out]; rfl, own_butM HO.out (ButM.of_below (m := m) (bl_drewN nq)) X.out.mp, X.out.below (bl_drewN nq), PS.out.below (bl_drewN nq), HFR.out.then (bl_drewN nq)⟩
            | exact ⟨A, c, by rw [HKN.out]; rfl, own_butM HO.out (ButM.of_below (m := m) (bl_drewN nq)) X.out.mp, kv, X.out.below (bl_drewN nq), PS.out.below (bl_drewN nq), HFR.out.then (bl_drewN nq)⟩
      · rw [hg] at hlk
        obtain ⟨blk, po, pc, rfl, hpc1, hpc2, hblk, _, _⟩ := hp.cell
        obtain ⟨o1, o2, o3⟩ := hok
        have hl : 0 < bs.length := List.length_pos_iff.2 o2
        have HP1 := Aside0.mk hp
        have PS1 := Aside0.mk hP'
        have HOK := Aside0.mk o3
        have hle := HEN.out _ List.mem_cons_self
        simp only at hle
        have hsum' : out.length + (bs.length + heldP r) ≤ heldP P := by rw [heldP_cons] at hsum; exact hsum
        have hcnt' : r.length + 1 ≤ P.length := by simpa using hcnt
        have HGT : Aside0 (∀ p ∈ kv', pl + (bs.length : Int) ≤ p.1) := ⟨pcs_ge hP' (fun x hx => okP_keys o3 x hx)⟩
        have HKL : Aside0 (kv'.length = r.length) := ⟨hP'.length⟩
        clear hp hP' o1 o2 o3 hg hP hsum hcnt hblk
        go_upto_region 4 with fail
        go_region
        go_upto_region 6 with fail
        have n1 := Aside0.mk X.out.drew
        have n2 : Aside0 (wr.drew.ownsRow W.heap.size 5 1 (.slice A out.length c) out.length (out.map (Value.int .u8))) := ⟨HO.out⟩
        have n3 := Aside0.mk PS1.out.drew
        have n4 := Aside0.mk HFR.out.drew
        have n5 := Aside0.mk (HP1.out.moveD (W' := wr.drew) (fun _ _ _ => rfl))
        obtain ⟨wt, hwt⟩ : ∃ wt, wr.drew = wt := ⟨_, rfl⟩
        rw [hwt] at n1 n2 n3 n4 n5 ⊢
        clear hwt hlk c0 c1 c2 c3 c4 c5 c6 c7 X HO PS1 HFR HP1
        obtain ⟨c0, c1, c2, c3, c4, c5, c6, c7⟩ := n1.out.c
        simp only at c1 c2 c3 c4 c5 c6
        have DL := Aside0.mk (dlt_run n1.out.mp.drew (k := pl) (wf_of (by omega) (by omega)))
        have hdel := DL.out.1
        go_region
        have hbm : ButM wt (dlt wt.drew m pl) m := (ButM.of_below (Below.refl _ wt).drew).turned DL.out.2.2
        have hd1 : delL ((pl, Value.slice (some ⟨blk, po, none⟩) bs.length pc) :: kv') pl = kv' := del_head (fun p hp => by have := HGT.out p hp; omega)
        have hx1 : BoxAt (dlt wt.drew m pl) b g m kv'.length { h with place := pl } kv' := by
          have := (n1.out.butM hbm DL.out.2.1).tight
          rw [hd1] at this
          exact this
        have n6 := Aside0.mk hx1
        have n7 := Aside0.mk (own_butM n2.out hbm n1.out.mp)
        have n8 := Aside0.mk (n3.out.butM hbm n1.out.mp)
        have n9 := Aside0.mk (n4.out.butM hbm)
        have n10 := Aside0.mk (n5.out.butM hbm n1.out.mp)
        obtain ⟨w1, hw1⟩ : ∃ w1, dlt wt.drew m pl = w1 := ⟨_, rfl⟩
        rw [hw1] at n6 n7 n8 n9 n10 ⊢
        clear hw1 hbm hd1 hx1 hdel DL c0 c1 c2 c3 c4 c5 c6 c7 n1 n2 n3 n4 n5
        have X := n6
        have HO := n7
        have PS := n8
        have HFR := n9
        have HP1 := n10
        clear n6 n7 n8 n9 n10
        obtain ⟨c0, c1, c2, c3, c4, c5, c6, c7⟩ := X.out.c
        simp only at c1 c2 c3 c4 c5 c6
        have f2 := X.out.free 2
        obtain ⟨i0, hi, hz0, hz1, hz2⟩ := info_parts info8
        by_cases hk : (bs.length : Int) ≤ N - out.length
        · have m2 : ∀ W : World, (Builtin.min_ #[3, 3] 3 #[.int .i64 (bs.length : Int), .int .i64 (N - out.length)]).run Try.prog W = .ok (.int .i64 (bs.length : Int)) W := fun W => by
            have := run_min (bs.length : Int) (N - out.length) W
            rw [show min (bs.length : Int) (N - out.length) = bs.length by omega] at this
            exact this
          have HK := Aside0.mk hk
          have NEW : Aside0 (∀ j u, (bs.map (Value.int .u8))[j]? = some u → w1.cell? ((⟨blk, po, none⟩ : Addr).add j) = some u) := ⟨news_of HP1.out⟩
          clear hk c0 c1 c3 c4 c5 c6 c7
          go_wp2_with (at_builtin; refine wpList_append_own_at _ rfl _ _ 22 rfl W.heap.size 5 i0 _ 1 1 Try.underlying22 hi hz0 hz1 hz2 rfl (by decide) (.slice A out.length c) out.length (out.map (Value.int .u8)) rfl HO.out ⟨blk, po, none⟩ bs.length pc (bs.map (Value.int .u8)) rfl (by simp) NEW.out (fun u hu => one_u8 hu) (by unfold maxLen; omega) (by omega) HFR.out.size ?_; intro v3 w3 h1 h2 _ _; have n1 := Aside0.mk h1; have n2 := Aside0.mk (X.out.grown h2 (fun e => by have := HOB.out g e.symm; omega) (fun e => by have := HOB.out m e.symm; omega)); have n3 := Aside0.mk (PS.out.moveD (W' := w3) (fun k hk hd => h2.block k hk (fun e => by have := HOB.out k e.symm; have := hd.2; omega))); have n4 := Aside0.mk (HFR.out.grown h2 HOB.out); clear h1 h2 c2 f2; have c2 := n2.out.c.2.2.1; have f2 := n2.out.free 2; simp only at c2)
          obtain ⟨A3, cc3, hv3, _⟩ := own_form n1.out
          subst hv3
          refine ⟨⟨out ++ bs, A3, cc3, pl + bs.length, kv', r, ?_, ?_, n2.out.put 2 _ _ rfl, n3.out.setg n2.out 2 _, HOK.out, ?_, by omega, by omega, fun p hp => HEN.out p (List.mem_cons_of_mem _ hp), by rw [List.length_append]; omega, by omega, n4.out.setg 2 _⟩, ?_⟩
          · rw [List.length_append]
          · rw [List.length_append, List.map_append]
            exact own_setg n1.out hgl 2 _
          · rw [HRD.out, rd_all (by omega) HK.out, List.length_append, List.append_assoc]
            push_cast
            rw [show N - (out.length : Int) - bs.length = N - (out.length + bs.length) by omega]
          · simp only []
            omega
        · obtain ⟨q, hq⟩ : ∃ q : Nat, (q : Int) = N - out.length := ⟨(N - out.length).toNat, by omega⟩
          have hq0 : 0 < q := by omega
          have hq1 : q < bs.length := by omega
          have m2 : ∀ W : World, (Builtin.min_ #[3, 3] 3 #[.int .i64 (bs.length : Int), .int .i64 (N - out.length)]).run Try.prog W = .ok (.int .i64 (q : Int)) W := fun W => by
            have := run_min (bs.length : Int) (N - out.length) W
            rw [show min (bs.length : Int) (N - out.length) = q by omega] at this
            exact this
          have HK := Aside0.mk hk
          have NEW : Aside0 (∀ j u, ((bs.take q).map (Value.int .u8))[j]? = some u → w1.cell? ((⟨blk, po, none⟩ : Addr).add j) = some u) := ⟨news_take HP1.out q⟩
          have hql : ((bs.take q).map (Value.int .u8)).length = q * 1 := by rw [List.length_map, List.length_take]; omega
          have q3 : ¬ pc = q := by omega
          have HQ := Aside0.mk hq
          clear hk hq c0 c1 c3 c4 c5 c6 c7
          go_upto_region 11 with (at_builtin; refine wpList_append_own_at _ rfl _ _ 22 rfl W.heap.size 5 i0 _ 1 1 Try.underlying22 hi hz0 hz1 hz2 rfl (by decide) (.slice A out.length c) out.length (out.map (Value.int .u8)) rfl HO.out ⟨blk, po, none⟩ q pc ((bs.take q).map (Value.int .u8)) rfl hql NEW.out (fun u hu => one_u8 hu) (by unfold maxLen; omega) (by omega) HFR.out.size ?_; intro v3 w3 h1 h2 _ _; have n1 := Aside0.mk h1; have n2 := Aside0.mk (X.out.grown h2 (fun e => by have := HOB.out g e.symm; omega) (fun e => by have := HOB.out m e.symm; omega)); have n3 := Aside0.mk (PS.out.moveD (W' := w3) (fun k hk hd => h2.block k hk (fun e => by have := HOB.out k e.symm; have := hd.2; omega))); have n4 := Aside0.mk (HFR.out.grown h2 HOB.out); have n5 := Aside0.mk (HP1.out.moveD (W' := w3) (fun k hk hd => h2.block k hk (fun e => by have := HOB.out k e.symm; have := hd.2; omega))); clear h1 h2 c2 f2; have c2 := n2.out.c.2.2.1; have f2 := n2.out.free 2; simp only at c2)
          obtain ⟨A3, cc3, hv3, _⟩ := own_form n1.out
          subst hv3
          have p1 := Aside0.mk (own_setg n1.out hgl 2 (.int .i64 (pl + q)))
          have p2 := Aside0.mk (n2.out.put 2 (.int .i64 (pl + q)) { h with place := pl + q } rfl)
          have p3 := Aside0.mk (n3.out.setg n2.out 2 (.int .i64 (pl + q)))
          have p4 := Aside0.mk (n4.out.setg 2 (.int .i64 (pl + q)))
          have p5 := Aside0.mk (n5.out.move (W' := w3.setCell ⟨g, 2, none⟩ (.int .i64 (pl + q))) (fun k cs hk => Below.heap_setCell w3 ⟨g, 2, none⟩ _ k (by rintro rfl; rw [n2.out.blk] at hk; injection hk with hk; injection hk with _ hk; exact absurd hk (by decide))))
          obtain ⟨w4, hw4⟩ : ∃ w4, w3.setCell ⟨g, 2, none⟩ (.int .i64 (pl + q)) = w4 := ⟨_, rfl⟩
          rw [hw4] at p1 p2 p3 p4 p5 ⊢
          clear hw4 c2 f2 n1 n2 n3 n4 n5 X HO PS HFR HP1 NEW
          obtain ⟨c0, c1, c2, c3, c4, c5, c6, c7⟩ := p2.out.c
          simp only at c1 c2 c3 c4 c5 c6
          have HU := Aside0.mk (upd_run p2.out.mp.drew (by have := HKL.out; unfold maxLen; omega) (k := pl + q) (wf_of (by omega) (by omega)) (.slice (some ⟨blk, po + q, none⟩) (bs.length - q) (pc - q)))
          have hup := HU.out.1
          have eadd : (⟨blk, po, none⟩ : Addr).add q = ⟨blk, po + q, none⟩ := add_at _ _ _
          go_region
          have hbm : ButM w4 (upd w4.drew m (pl + q) (.slice (some ⟨blk, po + q, none⟩) (bs.length - q) (pc - q))) m := (ButM.of_below (Below.refl _ w4).drew).turned HU.out.2.2
          have hx1 := (p2.out.butM hbm HU.out.2.1).tight
          rw [put_head (fun p hp => by have := HGT.out p hp; omega)] at hx1
          go_wp2_with fail
          refine ⟨⟨out ++ bs.take q, A3, cc3, pl + q, (pl + q, .slice (some ⟨blk, po + q, none⟩) (bs.length - q) (pc - q)) :: kv', (pl + q, bs.drop q) :: r, ?_, ?_, hx1, ⟨rfl, (p5.out.butM hbm p2.out.mp).tail hq1, p3.out.butM hbm p2.out.mp⟩, ⟨Int.le_refl _, fun h => ?_, ?_⟩, ?_, by omega, by omega, fun p hp => ?_, ?_, by rw [List.length_cons]; omega, p4.out.butM hbm⟩, ?_⟩
          · rw [List.length_append, List.length_take, show min q bs.length = q by omega]
          · rw [List.length_append, List.map_append, List.length_take, show min q bs.length = q by omega]
            exact own_butM p1.out hbm p2.out.mp
          · have := congrArg List.length h
            rw [List.length_drop] at this
            simp at this
            omega
          · rw [List.length_drop, show pl + (q : Int) + ((bs.length - q : Nat) : Int) = pl + bs.length by omega]
            exact HOK.out
          · rw [HRD.out, rd_part (by omega) HK.out, ← HQ.out, List.length_append, List.length_take, show min q bs.length = q by omega]
            rw [show N - ((out.length + q : Nat) : Int) = 0 by push_cast; have := HQ.out; omega, rd_here (Int.le_refl _)]
            simp
          · rcases List.mem_cons.1 hp with rfl | hp
            · simp only [List.length_drop]; omega
            · exact HEN.out p (List.mem_cons_of_mem _ hp)
          · rw [List.length_append, List.length_take, heldP_cons, List.length_drop]; omega
          · simp only [List.length_append, List.length_take]
            omega
    · go_upto_region 12 with fail
      have PS := Aside0.mk hP
      have hlt' : N - (out.length : Int) ≤ 0 := by omega
      clear hP hok
      have HRR : Aside0 (readP h.place N P = (out, pl, P')) := ⟨by rw [HRD.out, rd_here hlt', List.append_nil]⟩
      have m1 := run_mx h.limit (pl + h.room)
      obtain ⟨lim, hlim⟩ : ∃ lim, max h.limit (pl + h.room) = lim := ⟨_, rfl⟩
      rw [hlim] at m1
      have HLIM := Aside0.mk hlim
      obtain ⟨c0, c1, c2, c3, c4, c5, c6, c7⟩ := X.out.c
      have f3 := X.out.free 3
      simp only at c1 c2 c3 c4 c5 c6
      clear hlim
      go_region
      have hbx : BoxAt (wr.setCell ⟨g, 3, none⟩ (.int .i64 lim)).drew b g m kv.length { h with place := pl, limit := lim } kv := (X.out.put 3 (.int .i64 lim) { h with place := pl, limit := lim } rfl).drew
      have ho2 : (wr.setCell ⟨g, 3, none⟩ (.int .i64 lim)).drew.ownsRow W.heap.size 5 1 (.slice A out.length c) out.length (out.map (Value.int .u8)) := own_setg HO.out hgl 3 (.int .i64 lim)
      have ps2 : Pcs (wr.setCell ⟨g, 3, none⟩ (.int .i64 lim)).drew (fun k => D k ∧ k < W.heap.size) kv P' := (PS.out.setg X.out 3 _).drew
      have fr2 : Frm W (wr.setCell ⟨g, 3, none⟩ (.int .i64 lim)).drew m g := (HFR.out.setg 3 _).drew
      obtain ⟨W2, hW2⟩ : ∃ W2, (wr.setCell ⟨g, 3, none⟩ (.int .i64 lim)).drew = W2 := ⟨_, rfl⟩
      rw [hW2] at hbx ho2 ps2 fr2 ⊢
      clear hW2 c0 c1 c2 c3 c4 c5 c6 c7 f3 X HO PS HFR m1
      have X := Aside0.mk hbx
      have HO := Aside0.mk ho2
      have PS := Aside0.mk ps2
      have HFR := Aside0.mk fr2
      obtain ⟨c0, c1, c2, c3, c4, c5, c6, c7⟩ := X.out.c
      simp only at c1 c2 c3 c4 c5 c6
      clear hbx ho2 ps2 fr2
      go_upto_region 13 with fail
      cases hkn : h.known with
      | false =>
        rw [hkn] at c6
        have HKN := Aside0.mk hkn
        clear hkn
        go_quiet (fail)
        go_wp2_with fail
        go_ret2
        rw [HRR.out, HLIM.out]
        first
          | exact ⟨A, c, kv, by rw [HKN.out]; rfl, own_butM HO.out (ButM.of_below (m := m) (bl_drewN nq)) X.out.mp, X.out.below (bl_drewN nq), PS.out.below (bl_drewN nq), HFR.out.then (bl_drewN nq)⟩
          | exact ⟨A, c, by rw [HKN.out]; rfl, own_butM HO.out (ButM.of_below (m := m) (bl_drewN nq)) X.out.mp, kv, X.out.below (bl_drewN nq), PS.out.below (bl_drewN nq), HFR.out.then (bl_drewN nq)⟩
      | true =>
        rw [hkn] at c6
        have HKN := Aside0.mk hkn
        clear hkn
        go_quiet (fail)
        go_wp2_with fail
        go_ret2
        rw [HRR.out, HLIM.out]
        first
          | exact ⟨A, c, kv, by rw [HKN.out]; rfl, own_butM HO.out (ButM.of_below (m := m) (bl_drewN nq)) X.out.mp, X.out.below (bl_drewN nq), PS.out.below (bl_drewN nq), HFR.out.then (bl_drewN nq)⟩
          | exact ⟨A, c, by rw [HKN.out]; rfl, own_butM HO.out (ButM.of_below (m := m) (bl_drewN nq)) X.out.mp, kv, X.out.below (bl_drewN nq), PS.out.below (bl_drewN nq), HFR.out.then (bl_drewN nq)⟩
end Go.Proofs.Ytakmcbakogjeeaa.Ib
