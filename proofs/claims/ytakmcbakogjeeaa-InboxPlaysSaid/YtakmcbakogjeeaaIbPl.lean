/- InboxPlays: what holds at each step; no condition. -/
import Derived.Test.YtakmcbakogjeeaaIr4
import Derived.Test.YtakmcbakogjeeaaIb5j
import Derived.Test.YtakmcbakogjeeaaIb7
import Derived.Test.YtakmcbakogjeeaaIbPure3
set_option linter.unusedVariables false
set_option linter.unusedSimpArgs false
namespace Go.Proofs.Ytakmcbakogjeeaa.Ib
open Go Go.RowKit Go.Maps Go.Proofs.Ytakmcbakogjeeaa.Rm Go.Proofs.Ytakmcbakogjeeaa.Rw
open Go.Proofs.YtakmcbakogjeeaaW.PrintWords Go.Proofs.YtakmcbakogjeeaaW.PrintLast Go.Proofs.YtakmcbakogjeeaaW.PrintMore
variable {w W W' : World} {b g m n r ab : Nat} {h h2 : Hd} {P : List Pc} {kv : KV} {L : List By} {D : Nat → Prop} {cs : Array Value}
/-! Two contracts more of the program's box. -/
theorem put_arg (x : BoxAt W b g m n h kv) (off : Int) (A : Option Addr) (len cap : Nat) (fin : Bool) (hb : off < 0 ∨ off > 4611686018427387903 - len) (ho0 : -9223372036854775808 ≤ off) (ho1 : off ≤ 9223372036854775807) (hl : len ≤ 140737488355328) (hbw : b ≤ W.heap.size) :
    Calls Try.prog 19 #[.pointer (some ⟨g, 0, none⟩), .int .i64 off, .slice A len cap, .bool fin] W fun e w' => e = .returned (.int .i64 2) ∧ Below W.heap.size W w' := by
  have X := Aside0.mk x
  clear x
  by_cases h0 : off < 0
  · clear hb
    go_enter Try.func19, Try.ntmps19
    go_upto_region 1 with fail
    have hb : Below W.heap.size W (((W.alloc (.cells #[.pointer (some ⟨g, 0, none⟩)] 23)).alloc (.cells #[.int .i64 off] 3)).alloc (.cells #[.slice A len cap] 22)) := ((below_alloc (Below.refl _ W) _).alloc (by simp) _).alloc (by simp; omega) _
    have CN := Aside0.mk (none_s (X.out.below hb))
    have HB := Aside0.mk hb
    clear hb
    go_wp2_with (go_at_call 74; refine CN.out.mono ?_; rintro e w' ⟨rfl, rfl⟩)
    go_ret
    exact ⟨rfl, HB.out⟩
  · have h1 : off > 4611686018427387903 - len := by omega
    have h0' : 0 ≤ off := by omega
    clear hb h0
    go_enter Try.func19, Try.ntmps19
    go_upto_region 1 with fail
    have hb : Below W.heap.size W (((W.alloc (.cells #[.pointer (some ⟨g, 0, none⟩)] 23)).alloc (.cells #[.int .i64 off] 3)).alloc (.cells #[.slice A len cap] 22)) := ((below_alloc (Below.refl _ W) _).alloc (by simp) _).alloc (by simp; omega) _
    have CN := Aside0.mk (none_s (X.out.below hb))
    have HB := Aside0.mk hb
    clear hb
    go_wp2_with (go_at_call 74; refine CN.out.mono ?_; rintro e w' ⟨rfl, rfl⟩)
    go_ret
    exact ⟨rfl, HB.out⟩
set_option maxHeartbeats 4000000 in
theorem end_f (x : BoxAt W b g m n h kv) (f : Int) (hb : b ≤ W.heap.size) : Calls Try.prog 16 #[.pointer (some ⟨g, 0, none⟩), .int .i64 f] W fun e w' => e = .returned (.int .i64 (endV h f)) ∧ BoxAt w' b g m n (endH h f) kv ∧ (∀ k, k ≠ g → w'.heap[k]? = W.heap[k]?) ∧ Below b W w' := by
  obtain ⟨c0, c1, c2, c3, c4, c5, c6, c7⟩ := x.c
  have f4 := x.free 4
  have f5 := x.free 5
  have f6 := x.free 6
  have X := Aside0.mk x
  clear x
  unfold endH endV
  by_cases h0 : f < 0
  · rw [if_pos (.inl h0), if_neg (by decide)]
    go_enter Try.func16, Try.ntmps16
    go_wp2_with (go_at_call 74; refine (none_s X.out).mono ?_; rintro e w' ⟨rfl, rfl⟩)
    go_ret
    exact ⟨rfl, X.out, fun _ _ => rfl, Below.refl _ _⟩
  · by_cases h1 : f > 4611686018427387903
    · rw [if_pos (.inr h1), if_neg (by decide)]
      have h0' : 0 ≤ f := by omega
      clear h0
      go_enter Try.func16, Try.ntmps16
      go_wp2_with (go_at_call 74; refine (none_s X.out).mono ?_; rintro e w' ⟨rfl, rfl⟩)
      go_ret
      exact ⟨rfl, X.out, fun _ _ => rfl, Below.refl _ _⟩
    · rw [if_neg (show ¬ (f < 0 ∨ f > 4611686018427387903) by omega)]
      have h0' : 0 ≤ f := by omega
      have h1' : f ≤ 4611686018427387903 := by omega
      have CE := Aside0.mk (ends_s X.out f true)
      obtain ⟨v, hv⟩ : ∃ v, endsV h f true = v := ⟨_, rfl⟩
      rw [hv] at CE ⊢
      clear h0 h1 hv
      by_cases hz : v = 0
      · subst hz
        rw [if_pos rfl]
        go_enter Try.func16, Try.ntmps16
        go_wp2_with (first
          | (go_at_call 74; refine (none_s X.out).mono ?_; rintro e w' ⟨rfl, rfl⟩)
          | (go_at_call 75; refine CE.out.mono ?_; rintro e w' ⟨rfl, rfl⟩))
        go_ret
        have y1 := X.out.put 6 (.bool true) { h with known := true } rfl
        have y2 := y1.put 5 (.int .i64 f) { h with known := true, final := f } rfl
        have y3 := y2.put 4 (.int .i64 f) { h with known := true, final := f, reach := f } rfl
        exact ⟨rfl, y3, fun k hk => ((Below.heap_setCell _ ⟨g, 4, none⟩ (.int .i64 f) k hk).trans (Below.heap_setCell _ ⟨g, 5, none⟩ (.int .i64 f) k hk)).trans (Below.heap_setCell W ⟨g, 6, none⟩ (.bool true) k hk), (((Below.refl b W).setCell (p := ⟨g, 6, none⟩) X.out.hg _).setCell (p := ⟨g, 5, none⟩) X.out.hg _).setCell (p := ⟨g, 4, none⟩) X.out.hg _⟩
      · rw [if_neg hz]
        have hvb : (v == 0) = false := by simp [hz]
        go_enter Try.func16, Try.ntmps16
        go_wp2_with (first
          | (go_at_call 74; refine (none_s X.out).mono ?_; rintro e w' ⟨rfl, rfl⟩)
          | (go_at_call 75; refine CE.out.mono ?_; rintro e w' ⟨rfl, rfl⟩))
        go_ret
        exact ⟨rfl, X.out, fun _ _ => rfl, Below.refl _ _⟩
/-! What holds of the numbers and the pieces. -/
structure PlIn (h : Hd) (P : List Pc) : Prop where
  ok : OkP h.place P
  inl : ∀ z ∈ flat P, z.1 < h.limit
  big : ∀ z ∈ flat P, z.1 < 4611686018427387903
  r0 : 0 ≤ h.room
  r1 : h.room ≤ 1048576
  p0 : 0 ≤ h.place
  p1 : h.place ≤ 4611686018427387903
  l0 : h.place ≤ h.limit
  l1 : h.limit ≤ h.place + 1048576
  q0 : 0 ≤ h.reach
  q1 : h.reach ≤ 4611686018427387903
  f0 : h.known = false → h.final = 0
theorem piece_end {M : Int} {pl : Int} (ho : OkP pl P) (hz : ∀ z ∈ flat P, z.1 < M) : ∀ p ∈ P, p.1 + p.2.length ≤ M := by
  intro p hp
  have hpn : p.2 ≠ [] := by
    have aux : ∀ (Q : List Pc) (q : Int), OkP q Q → ∀ x ∈ Q, x.2 ≠ [] := by
      intro Q
      induction Q with
      | nil => intro q _ x hx; cases hx
      | cons y Q ih =>
        rintro q ⟨a1, a2, a3⟩ x hx
        rcases List.mem_cons.1 hx with rfl | hx
        · exact a2
        · exact ih _ a3 x hx
    exact aux P pl ho p hp
  have hlen : 0 < p.2.length := List.length_pos_iff.2 hpn
  have hl : p.2.length - 1 < p.2.length := by omega
  have hm : (p.1 + ((p.2.length - 1 : Nat) : Int), p.2[p.2.length - 1]) ∈ flat P := List.mem_flatMap.2 ⟨p, hp, (mem_bytesFrom _ _ _).2 ⟨p.2.length - 1, List.getElem?_eq_getElem hl, rfl⟩⟩
  have := hz _ hm
  simp only at this
  omega
theorem PlIn.few (x : PlIn h P) : P.length ≤ 1048576 ∧ heldP P ≤ 1048576 ∧ (flat P).length ≤ 1048576 ∧ h.limit ≤ 4611686019427387903 + 1048576 ∧ (∀ p ∈ P, p.1 + p.2.length ≤ 4611686018427387903) ∧ InR h.place h.limit (flat P) := by
  have h1 := okP_few x.ok x.l0 (piece_end x.ok x.inl)
  have hin : InR h.place h.limit (flat P) := fun z hz => ⟨flat_ge x.ok z hz, x.inl z hz⟩
  have h2 := up_few (flat_up x.ok) hin x.l0
  have h3 := held_is P
  have h4 := x.l1
  have h5 := x.p1
  exact ⟨by omega, by omega, by omega, by omega, piece_end x.ok x.big, hin⟩
theorem PlIn.new (room : Int) (h0 : 0 ≤ room) (h1 : room ≤ 1048576) : PlIn ⟨room, 0, room, 0, 0, false⟩ [] :=
  ⟨trivial, fun z hz => by simp [flat] at hz, fun z hz => by simp [flat] at hz, h0, h1, Int.le_refl _, by simp, h0, by simp only; omega, Int.le_refl _, by simp, fun _ => rfl⟩
theorem endsV_lim {e : Int} {fin : Bool} (hv : endsV h e fin = 0) : e ≤ h.limit := by
  rcases ends_ways h e fin with ⟨hx, _⟩ | ⟨hx, _⟩
  · rw [hv] at hx; exact absurd hx (by decide)
  · by_cases h5 : e > h.limit
    · rw [hv, if_pos h5] at hx; exact absurd hx (by decide)
    · omega
theorem PlIn.put (x : PlIn h P) {off : Int} {data : List Int} {fin : Bool} (h0 : 0 ≤ off) (h1 : off ≤ 4611686018427387903 - data.length) (hv : endsV h (off + data.length) fin = 0) :
    PlIn (putH h off data.length fin) (fill data off P (max off h.place) (off + data.length)) ∧ flat (fill data off P (max off h.place) (off + data.length)) = putB h.place off data (flat P) := by
  have hl := endsV_lim hv
  obtain ⟨q1, q2⟩ := fill_ok (data := data) (off := off) P h.place (max off h.place) (off + data.length) x.ok (by omega) (by omega) (by omega)
  have hm : ∀ z ∈ flat (fill data off P (max off h.place) (off + data.length)), z ∈ flat P ∨ z.1 < off + data.length := fun z hz => by
    rcases (q2 z).1 hz with h3 | ⟨_, _, h3, _⟩
    · exact .inl h3
    · exact .inr h3
  obtain ⟨a1, a2, a3, a4, a5, a6, a7, a8, a9, a10, a11, a12⟩ := x
  refine ⟨?_, fill_is a1⟩
  unfold putH
  cases fin with
  | true =>
    simp only [if_true]
    exact ⟨q1, fun z hz => by
      rcases hm z hz with h3 | h3
      · exact a2 z h3
      · simp only; omega, fun z hz => by
      rcases hm z hz with h3 | h3
      · exact a3 z h3
      · omega, a4, a5, a6, a7, a8, a9, by simp only; omega, by simp only; omega, fun h => by cases h⟩
  | false =>
    simp only [Bool.false_eq_true, if_false]
    exact ⟨q1, fun z hz => by
      rcases hm z hz with h3 | h3
      · exact a2 z h3
      · simp only; omega, fun z hz => by
      rcases hm z hz with h3 | h3
      · exact a3 z h3
      · omega, a4, a5, a6, a7, a8, a9, by simp only; omega, by simp only; omega, a12⟩
theorem PlIn.grow (x : PlIn h P) {room : Int} (h0 : 0 ≤ room) (h1 : room ≤ 1048576) : PlIn { h with room := room, limit := max h.limit (h.place + room) } P := by
  obtain ⟨a1, a2, a3, a4, a5, a6, a7, a8, a9, a10, a11, a12⟩ := x
  exact ⟨a1, fun z hz => by have := a2 z hz; simp only; omega, a3, h0, h1, a6, a7, by simp only; omega, by simp only; omega, a10, a11, a12⟩
theorem PlIn.fin (x : PlIn h P) (f : Int) : PlIn (endH h f) P := by
  unfold endH
  split
  · next hv =>
    unfold endV at hv
    split at hv
    · exact absurd hv (by decide)
    · obtain ⟨a1, a2, a3, a4, a5, a6, a7, a8, a9, a10, a11, a12⟩ := x
      exact ⟨a1, a2, a3, a4, a5, a6, a7, a8, a9, by simp only; omega, by simp only; omega, fun h => by cases h⟩
  · exact x
theorem snd_bytes : ∀ (bs : List Int) (s : Int), (bytesFrom s bs).map (fun z => z.2) = bs
  | [], _ => rfl
  | c :: r, s => by rw [bytesFrom, List.map_cons, snd_bytes r]
theorem PlIn.read (x : PlIn h P) (N : Int) :
    PlIn { h with place := (readP h.place N P).2.1, limit := max h.limit ((readP h.place N P).2.1 + h.room) } (readP h.place N P).2.2 ∧ (((readP h.place N P).1.length : Nat) : Int) = max 0 (min N (readyB h.place (flat P))) ∧
    (readP h.place N P).2.1 = h.place + (readP h.place N P).1.length ∧ flat (readP h.place N P).2.2 = (flat P).drop (readP h.place N P).1.length ∧ ((flat P).take (readP h.place N P).1.length).map (fun z => z.2) = (readP h.place N P).1 := by
  obtain ⟨q1, q2, q3, q4⟩ := read_ok P h.place N x.ok
  obtain ⟨p1, p2⟩ := read_is (n := N) x.ok
  have hsub : ∀ z ∈ flat (readP h.place N P).2.2, z ∈ flat P := fun z hz => by rw [q2]; exact List.mem_append_right _ hz
  have hpl : (readP h.place N P).2.1 ≤ 4611686018427387903 := by
    have := ready_lim (flat P) h.place x.big x.p1
    rw [q3, q4]
    have := x.p1
    omega
  refine ⟨?_, q4, q3, p2, by rw [← p1, snd_bytes]⟩
  obtain ⟨a1, a2, a3, a4, a5, a6, a7, a8, a9, a10, a11, a12⟩ := x
  exact ⟨q1, fun z hz => by have := a2 z (hsub z hz); simp only; omega, fun z hz => a3 z (hsub z hz), a4, a5, by simp only; omega, hpl, by simp only; omega, by simp only; omega, a10, a11, a12⟩
/-! What lies in memory. -/
structure PlS (w : World) (g m r ab : Nat) (cs : Array Value) (D : Nat → Prop) (h : Hd) (P : List Pc) (h2 : Hd) (L : List By) (W : World) : Prop where
  bel : Below w.heap.size w W
  box : ∃ kv, BoxAt W w.heap.size g m kv.length h kv ∧ Pcs W D kv P
  rb : ∃ A c, RBox W w.heap.size r h2 A c L
  loc : W.heap[ab]? = some (.cells cs 41 (0, 0))
/-- Rows of bytes stay. -/
def RowsStay (W W' : World) : Prop := ∀ (base : Nat) (v : Value) (n : Nat) (us : List Value), W.ownsRow base 5 1 v n us → W'.ownsRow base 5 1 v n us
theorem RowsStay.then {W2 : World} (h1 : RowsStay W W') (h2 : RowsStay W' W2) : RowsStay W W2 := fun base v n us h => h2 base v n us (h1 base v n us h)
theorem PlS.types (x : PlS w g m r ab cs D h P h2 L W) : g ≠ r ∧ m ≠ r ∧ ab ≠ g ∧ ab ≠ m ∧ ab ≠ r ∧ ∀ (k : Nat) (c : Array Value), W.heap[k]? = some (.cells c 5 (0, 0)) → k ≠ g ∧ k ≠ m ∧ k ≠ r ∧ k ≠ ab := by
  obtain ⟨kv, h1, _⟩ := x.box
  obtain ⟨A, c, h3⟩ := x.rb
  have tn : ∀ {i j : Nat} {c1 c2 : Array Value} {t1 t2 : TypeId}, W.heap[i]? = some (.cells c1 t1 (0, 0)) → W.heap[j]? = some (.cells c2 t2 (0, 0)) → t1 ≠ t2 → i ≠ j := fun {i j c1 c2 t1 t2} e1 e2 hn => by
    rintro rfl
    rw [e1] at e2
    injection e2 with e2
    injection e2 with _ e2
    exact hn e2
  refine ⟨tn h1.blk h3.blk (by decide), map_ne_cells h1.mp h3.blk, tn x.loc h1.blk (by decide), fun e => map_ne_cells h1.mp x.loc e.symm, tn x.loc h3.blk (by decide), fun k c hk => ⟨tn hk h1.blk (by decide), fun e => map_ne_cells h1.mp hk e.symm, tn hk h3.blk (by decide), tn hk x.loc (by decide)⟩⟩
theorem PlS.rows (x : PlS w g m r ab cs D h P h2 L W) (hf : ∀ k, k < W.heap.size → k ≠ g → k ≠ m → k ≠ r → W'.heap[k]? = W.heap[k]?) : RowsStay W W' := fun base v n us ho => own_move ho (fun k hk => by
  obtain ⟨_, c, hc⟩ := own_typed ho k hk
  obtain ⟨a1, a2, a3, _⟩ := x.types.2.2.2.2.2 k c hc
  exact hf k (Array.getElem?_eq_some_iff.1 hc).1 a1 a2 a3)
/-- The program's box goes on. -/
theorem PlS.afterG {D' : Nat → Prop} {h' : Hd} {P' : List Pc} {kv' : KV} (x : PlS w g m r ab cs D h P h2 L W) (hx : BoxAt W' w.heap.size g m kv'.length h' kv') (hp : Pcs W' D' kv' P') (hb : Below w.heap.size W W') (hf : ∀ k, k < W.heap.size → k ≠ g → k ≠ m → W'.heap[k]? = W.heap[k]?) :
    PlS w g m r ab cs D' h' P' h2 L W' ∧ RowsStay W W' := by
  obtain ⟨A, c, h3⟩ := x.rb
  obtain ⟨t1, t2, t3, t4, t5, _⟩ := x.types
  obtain ⟨kv0, hb0, _⟩ := x.box
  refine ⟨⟨x.bel.trans hb, ⟨kv', hx, hp⟩, ⟨A, c, h3.move (hf r h3.lt (Ne.symm t1) (Ne.symm t2)) (fun k hk => ?_)⟩, (hf ab (Array.getElem?_eq_some_iff.1 x.loc).1 t3 t4).trans x.loc⟩, x.rows (fun k h1 h2 h3 _ => hf k h1 h2 h3)⟩
  obtain ⟨_, c', hc⟩ := wr_typed h3.row k hk
  refine hf k (Array.getElem?_eq_some_iff.1 hc).1 ?_ (fun e => map_ne_cells hb0.mp hc e.symm)
  rintro rfl
  rw [hb0.blk] at hc
  injection hc with hc
  injection hc with _ hc
  exact absurd hc (by decide)
/-- The document's box goes on. -/
theorem PlS.afterR {h2' : Hd} {L' : List By} {A' : Option Addr} {c' : Nat} (x : PlS w g m r ab cs D h P h2 L W) (hx : RBox W' w.heap.size r h2' A' c' L') (hl : LfR W W' w.heap.size r) :
    PlS w g m r ab cs D h P h2' L' W' ∧ RowsStay W W' := by
  obtain ⟨t1, t2, t3, t4, t5, t6⟩ := x.types
  obtain ⟨kv0, hb0, hp0⟩ := x.box
  have hfr : ∀ k, k < W.heap.size → k ≠ r → W'.heap[k]? = W.heap[k]? := fun k hk hn => hl.kept k hk hn
  have hmp : ∃ o, W.grownBy W' (some r) := ⟨0, ⟨hl.bel.os, hl.bel.tape, hl.bel.output, hl.bel.size, fun k hk hn => hl.kept k hk (fun e => hn (by rw [e]))⟩⟩
  obtain ⟨_, hgr⟩ := hmp
  refine ⟨⟨x.bel.trans hl.bel, ⟨kv0, hb0.grown hgr (fun e => t1 (by injection e)) (fun e => t2 (by injection e)), hp0.move (fun k cs' hk => hfr k (Array.getElem?_eq_some_iff.1 hk).1 (t6 k cs' hk).2.2.1)⟩, ⟨A', c', hx⟩, (hfr ab (Array.getElem?_eq_some_iff.1 x.loc).1 t5).trans x.loc⟩, x.rows (fun k h1 _ _ h3 => hfr k h1 h3)⟩
theorem PlS.below (x : PlS w g m r ab cs D h P h2 L W) (hb : Below W.heap.size W W') : PlS w g m r ab cs D h P h2 L W' ∧ RowsStay W W' := by
  obtain ⟨kv, h1, h3⟩ := x.box
  obtain ⟨A, c, h4⟩ := x.rb
  exact ⟨⟨x.bel.trans (hb.mono x.bel.size), ⟨kv, h1.below hb, h3.below hb⟩, ⟨A, c, h4.below hb⟩, (hb.block ab (Array.getElem?_eq_some_iff.1 x.loc).1).trans x.loc⟩, x.rows (fun k hk _ _ _ => hb.block k hk)⟩
theorem PlS.mono {D' : Nat → Prop} (x : PlS w g m r ab cs D h P h2 L W) (hd : ∀ k, k < W.heap.size → D k → D' k) : PlS w g m r ab cs D' h P h2 L W := by
  obtain ⟨kv, h1, h3⟩ := x.box
  exact ⟨x.bel, ⟨kv, h1, h3.mono hd⟩, x.rb, x.loc⟩
/-- A row of bytes of the law's own is written: no piece lies in it. -/
theorem PlS.wrote {q : Nat} {c1 : Array Value} (x : PlS w g m r ab cs D h P h2 L W) (hq : W.heap[q]? = some (.cells c1 5 (0, 0))) (hd : ∀ k, D k → k ≠ q) (hw : w.heap.size ≤ q) (i : Nat) (v : Value) : PlS w g m r ab cs D h P h2 L (W.setCell ⟨q, i, none⟩ v) := by
  obtain ⟨kv, h1, h3⟩ := x.box
  obtain ⟨A, c, h4⟩ := x.rb
  obtain ⟨t1, t2, t3, t4⟩ := x.types.2.2.2.2.2 q c1 hq
  have hf : ∀ k, k ≠ q → (W.setCell ⟨q, i, none⟩ v).heap[k]? = W.heap[k]? := fun k hk => Below.heap_setCell W ⟨q, i, none⟩ v k hk
  refine ⟨x.bel.setCell (p := ⟨q, i, none⟩) hw v, ⟨kv, ⟨h1.hg, h1.hm, (hf g (Ne.symm t1)).trans h1.blk, h1.mp.setCell (a := ⟨q, i, none⟩) (Ne.symm t2) v⟩, h3.moveD (fun k hk hdk => hf k (hd k hdk))⟩, ⟨A, c, h4.move (hf r (Ne.symm t3)) (fun k hk => ?_)⟩, (hf ab (Ne.symm t4)).trans x.loc⟩
  obtain ⟨_, c', hc⟩ := wr_typed h4.row k hk
  refine hf k ?_
  rintro rfl
  rw [hq] at hc
  injection hc with hc
  injection hc with _ hc
  exact absurd hc (by decide)
end Go.Proofs.Ytakmcbakogjeeaa.Ib
