/- A range over a set's spans whose loop variable lies in a box of its own: the law, with the frame left open; no condition. -/
import Derived.Test.YtmkojmjjlcfohaaRgOwn
set_option linter.unusedVariables false
set_option linter.unusedSimpArgs false
namespace Go.Proofs.Ytmkojmjjlcfohaa.Rg
open Go.RowKit Go.Shelf Go.Proofs.YtmkojmjjlcfohaaW.PrintWords Go.Proofs.YtmkojmjjlcfohaaW.PrintLast Go.Proofs.YtmkojmjjlcfohaaW.PrintMore Go.Proofs.Ytmkojmjjlcfohaa.Rw
def TB (T : Array Value) (p q : Nat) (B : Nat) (x : SpT) : Array Value := (T.setIfInBounds p (.agg #[.int .i64 x.1.1, .int .i64 x.1.2])).setIfInBounds q (.pointer (some ⟨B, 0, none⟩))
theorem range_sp {F : Fence} {P : Program} {n : Nat} {g : Operand} {p : Tmp} (q : Nat) {assign body : Code} {Q : Exit → Act → World → Prop} {T : Array Value} {w : World}
    (hro : F.round = none) (h1 : 1 ≤ n) {gf : Nat} {lb : Array Value} (hg : ({ tmps := T, defers := [] } : Act).eval g = .func (.func gf) #[] lb) (hFg : F.fn gf) (eg : ∀ args w, (callFunc gf args).run P w = .ok (.enter gf args) w)
    {Kp : World → World → Prop} {S Sp : List SpT → Prop} {N : Nat} (hseq : SeqStopsK F (n - 1) P gf lb encS Kp S Sp N w)
    (hKt : ∀ {A B C : World}, Kp A B → Kp B C → Kp A C) (hKb : ∀ (W : World) (l : Nat) (o o' : Obj), w.heap.size ≤ l → W.heap[l]? = some o → o.isCells = false → o.isWalk = false → Kp W (W.putObj l o'))
    (I : List SpT → World → Prop) (hI : OwnFrom w.heap.size I) (h0 : I [] w) (hsz : ∀ pre W, I pre W → w.heap.size ≤ W.heap.size) (hIb : ∀ pre W W', I pre W → Below W.heap.size W W' → I pre W') (hKw : ∀ W W', w.heap.size ≤ W.heap.size → Below W.heap.size W W' → Kp W W')
    (hassign : ∀ (l : Nat) (x : SpT) (W : World) (K : Act → World → Prop), K { tmps := TB T p q W.heap.size x, defers := [] } (W.alloc (.cells #[.int .i64 x.1.1, .int .i64 x.1.2] 39)) →
      assign.wpIn (F.inRound l) (n - 1 - 1) P (Exit.then K (fun _ _ _ => False)) { tmps := T.setIfInBounds p (.agg #[.int .i64 x.1.1, .int .i64 x.1.2]), defers := [] } W)
    (hbody : ∀ (l : Nat) (pre : List SpT) (x : SpT) (B : Nat) (W : World), w.heap.size ≤ B → I pre W → W.heap[B]? = some (.cells #[.int .i64 x.1.1, .int .i64 x.1.2] 39 (0, 0)) → pre.length < N → body.wpIn (F.inRound l) (n - 1 - 1) P (ownPostG w.heap.size Kp I (fun _ _ _ => False) (pre ++ [x]) W) { tmps := TB T p q B x, defers := [] } W)
    (hdone : ∀ (D : Nat) (xs : List SpT) (W : World), w.heap.size ≤ D → S xs → I xs W → W.heap[D]? = some (.deferred (some [])) → Q .normal { tmps := T, defers := [{ target := .collected D, args := #[] }] } W) :
    (Code.rangeFunc g #[p] assign body).wpIn F n P Q { tmps := T, defers := [] } w := by
  refine wpIn_rangeFunc_ownH (w0 := w) hro h1 hg hFg eg hseq hKt hKb (Below.refl _ _) (fun x => rfl) I (fun _ _ _ => False) hI (fun _ _ _ _ _ hs _ _ => hs) h0
    (SpA w.heap.size (TB T p q)) (fun x a' => spA_own _ _ x a') ?_ ?_ (fun D xs W h1 h2 h3 h4 => hdone D xs W h1 h2 h3 h4) (fun D c pre W _ _ h _ => h.elim)
  · intro l pre x W K hi hk
    have hb : Below W.heap.size W (W.alloc (.cells #[.int .i64 x.1.1, .int .i64 x.1.2] 39)) := below_alloc (Below.refl _ W) _
    simp only [encS, List.zip_toArray, List.zip_cons_cons, List.zip_nil_right, List.foldl_toArray, List.foldl_cons, List.foldl_nil]
    exact hassign l x W K (hk _ _ (keeps_below hb) (hKw W _ (hsz _ _ hi) hb) (hIb _ _ _ hi hb) ⟨W.heap.size, hsz _ _ hi, rfl, heap_alloc_new W _⟩)
  · rintro l pre x a' W hl hr hi ⟨B, hB, rfl, hBx⟩ hp
    exact hbody l pre x B W hB hi hBx hp
theorem range_sp2 {F : Fence} {P : Program} {n : Nat} {g : Operand} {p : Tmp} (q : Nat) {assign body : Code} {Q : Exit → Act → World → Prop} {T : Array Value} {ds : List Deferred} {w : World}
    (hro : F.round = none) (h1 : 1 ≤ n) {gf : Nat} {lb : Array Value} (hg : ({ tmps := T, defers := ds } : Act).eval g = .func (.func gf) #[] lb) (hFg : F.fn gf) (eg : ∀ args w, (callFunc gf args).run P w = .ok (.enter gf args) w)
    {Kp : World → World → Prop} {S Sp : List SpT → Prop} {N : Nat} (hseq : SeqStopsK F (n - 1) P gf lb encS Kp S Sp N w)
    (hKt : ∀ {A B C : World}, Kp A B → Kp B C → Kp A C) (hKb : ∀ (W : World) (l : Nat) (o o' : Obj), w.heap.size ≤ l → W.heap[l]? = some o → o.isCells = false → o.isWalk = false → Kp W (W.putObj l o'))
    (I : List SpT → World → Prop) (Ix : Code → List SpT → World → Prop) (hIx : ∀ c, OwnFrom w.heap.size (Ix c)) (hI : OwnFrom w.heap.size I) (h0 : I [] w) (hsz : ∀ pre W, I pre W → w.heap.size ≤ W.heap.size) (hIb : ∀ pre W W', I pre W → Below W.heap.size W W' → I pre W') (hKw : ∀ W W', w.heap.size ≤ W.heap.size → Below W.heap.size W W' → Kp W W')
    (hassign : ∀ (l : Nat) (x : SpT) (W : World) (K : Act → World → Prop), K { tmps := TB T p q W.heap.size x, defers := [] } (W.alloc (.cells #[.int .i64 x.1.1, .int .i64 x.1.2] 39)) →
      assign.wpIn (F.inRound l) (n - 1 - 1) P (Exit.then K (fun _ _ _ => False)) { tmps := T.setIfInBounds p (.agg #[.int .i64 x.1.1, .int .i64 x.1.2]), defers := [] } W)
    (hbody : ∀ (l : Nat) (pre : List SpT) (x : SpT) (B : Nat) (W : World), w.heap.size ≤ B → I pre W → W.heap[B]? = some (.cells #[.int .i64 x.1.1, .int .i64 x.1.2] 39 (0, 0)) → pre.length < N → body.wpIn (F.inRound l) (n - 1 - 1) P (ownPostG w.heap.size Kp I Ix (pre ++ [x]) W) { tmps := TB T p q B x, defers := [] } W)
    (hdone : ∀ (D : Nat) (xs : List SpT) (W : World), w.heap.size ≤ D → S xs → I xs W → W.heap[D]? = some (.deferred (some [])) → Q .normal { tmps := T, defers := { target := .collected D, args := #[] } :: ds } W)
    (hstop : ∀ (D : Nat) (c : Code) (pre : List SpT) (W : World), w.heap.size ≤ D → Sp pre → Ix c pre W → W.heap[D]? = some (.deferred (some [])) → c.wpIn F n P Q { tmps := T, defers := { target := .collected D, args := #[] } :: ds } W) :
    (Code.rangeFunc g #[p] assign body).wpIn F n P Q { tmps := T, defers := ds } w := by
  refine wpIn_rangeFunc_ownH (w0 := w) hro h1 hg hFg eg hseq hKt hKb (Below.refl _ _) (fun x => rfl) I Ix hI hIx h0
    (SpA w.heap.size (TB T p q)) (fun x a' => spA_own _ _ x a') ?_ ?_ (fun D xs W h1 h2 h3 h4 => hdone D xs W h1 h2 h3 h4) (fun D c pre W h1 h2 h3 h4 => hstop D c pre W h1 h2 h3 h4)
  · intro l pre x W K hi hk
    have hb : Below W.heap.size W (W.alloc (.cells #[.int .i64 x.1.1, .int .i64 x.1.2] 39)) := below_alloc (Below.refl _ W) _
    simp only [encS, List.zip_toArray, List.zip_cons_cons, List.zip_nil_right, List.foldl_toArray, List.foldl_cons, List.foldl_nil]
    exact hassign l x W K (hk _ _ (keeps_below hb) (hKw W _ (hsz _ _ hi) hb) (hIb _ _ _ hi hb) ⟨W.heap.size, hsz _ _ hi, rfl, heap_alloc_new W _⟩)
  · rintro l pre x a' W hl hr hi ⟨B, hB, rfl, hBx⟩ hp
    exact hbody l pre x B W hB hi hBx hp
theorem wpListIn_append_span {F : Fence} {n' : Nat} {ops : Array Oper} {o : Oper} {rest : List Oper} {a : Act} {Q' : Exit → Act → World → Prop} {w0 W : World} (base : Nat) (hgd : o.guard = none) (s x : Operand)
    (ho : o.op = .call { callee := .builtin .append, args := #[s, x], argTypes := #[33, 33] }) (v : Value) (M : List Sp) (y : Sp) (hs : a.eval s = v) (nb : Nat) (hnb : nb = W.heap.size) (hx : a.eval x = .slice (some ⟨nb, 0, none⟩) 1 1)
    (n : Nat) (HO : W.ownsRow base 39 2 v n (cells M)) (HB : Below base w0 W) (hbase : base ≤ W.heap.size) (hl : n + 1 ≤ 1099511627776)
    (h : ∀ v1 w1, w1.ownsRow base 39 2 v1 (n + 1) (cells (M ++ [y])) → Below base w0 w1 → (W.alloc (.cells #[.int .i64 y.1, .int .i64 y.2] 39)).grownBy w1 v.ownBlock → (v1.ownBlock = v.ownBlock ∨ v1.ownBlock = some (W.alloc (.cells #[.int .i64 y.1, .int .i64 y.2] 39)).heap.size) → wpListIn F n' Try.prog ops Q' rest (a.put o.dst v1) w1) :
    wpListIn F n' Try.prog ops Q' (o :: rest) a (W.alloc (.cells #[.int .i64 y.1, .int .i64 y.2] 39)) := by
  subst hnb
  obtain ⟨i0, hi, hz0, hz1, hz2⟩ := info_parts infoS
  have hnew : ∀ j u, [Value.int .i64 y.1, .int .i64 y.2][j]? = some u → (W.alloc (.cells #[.int .i64 y.1, .int .i64 y.2] 39)).cell? ((⟨W.heap.size, 0, none⟩ : Addr).add j) = some u := fun j u hu => by
    rw [add_at, cell_of_row _ _ _ _ _ _ (heap_alloc_new W _), Nat.zero_add]
    simpa using hu
  obtain ⟨v1, w1, hr, h1, h2, _, h3⟩ := run_append_own_at (P := Try.prog) (w := W.alloc (.cells #[.int .i64 y.1, .int .i64 y.2] 39)) base 33 o.type 39 i0 _ 2 16 Try.underlying33 hi hz0 hz1 hz2 rfl (by decide) v n (cells M) (HO.alloc _) ⟨W.heap.size, 0, none⟩ 1 1 [.int .i64 y.1, .int .i64 y.2] rfl hnew
    (fun u hu => by rcases List.mem_cons.1 hu with rfl | hu; rfl; rw [List.mem_singleton.1 hu]; rfl) (by unfold maxLen; omega) (by omega) (by simp; omega)
  have e2 : cells (M ++ [y]) = cells M ++ [.int .i64 y.1, .int .i64 y.2] := by rw [cells_append]; rfl
  refine wpListIn_plain hgd fun K hK => ?_
  have hb := (HB.alloc hbase _).grown h2 (by simp; omega) (fun k hk => (own_typed HO k hk).1)
  unfold Oper.wpIn
  refine ⟨?_, ?_⟩
  · simp [Oper.about, ho, resolve, Target.leads, Sem.run_pure]
  · rw [Oper.semAt_plain F _ _ (by rw [ho]; intro c hc'; cases hc')]
    unfold execOp
    simp only [ho, resolve, invoke, builtin, Sem.run_bind, Sem.run_pure, Result.andThen_ok, List.map_toArray, List.map_cons, List.map_nil, hs, hx, hr]
    exact hK _ _ (h v1 w1 (by rw [e2]; exact h1) hb h2 h3)
/-- One span more in the list. -/
theorem list_step {w W w2 : World} {X : Nat} {vL v2 : Value} {pre : List SpT} {x : SpT} {o : Obj} (hbX : BelX X w W) (hvL : Boxed W X 33 vL) (hrow : W.ownsRow w.heap.size 39 2 vL pre.length (cells (pre.map (·.1)))) (hX : X < w.heap.size)
    (h1 : w2.ownsRow w.heap.size 39 2 v2 (pre.length + 1) (cells (pre.map (·.1) ++ [x.1]))) (hb : Below w.heap.size W w2) (hg : (W.alloc o).grownBy w2 vL.ownBlock) (h3 : v2.ownBlock = vL.ownBlock ∨ v2.ownBlock = some (W.alloc o).heap.size) :
    KeepsFrom w.heap.size W (w2.setCell ⟨X, 0, none⟩ v2) ∧ Kp (some X) w.heap.size W (w2.setCell ⟨X, 0, none⟩ v2) ∧ ListI w X (pre ++ [x]) (w2.setCell ⟨X, 0, none⟩ v2) := by
  have hfar : ∀ k, k ≠ X → (w2.setCell ⟨X, 0, none⟩ v2).heap[k]? = w2.heap[k]? := fun k hk => Below.heap_setCell w2 _ _ k hk
  have hss : (w2.setCell ⟨X, 0, none⟩ v2).heap.size = w2.heap.size := by simp [World.setCell]
  have hold : ∀ k, k < W.heap.size → vL.ownBlock ≠ some k → w2.heap[k]? = W.heap[k]? := fun k hk hv =>
    (hg.block k (by simp; omega) (fun e => hv e.symm)).trans (Below.heap_alloc _ _ _ (by omega))
  have hX2 : Boxed w2 X 33 vL := (hb.block X hX).trans hvL
  have hset : Boxed (w2.setCell ⟨X, 0, none⟩ v2) X 33 v2 := hX2.set v2
  refine ⟨⟨by rw [hss]; exact hb.size, fun k o' hk ho hc => ?_⟩, ⟨by rw [hss]; exact hb.size, fun k cs hk hr hp => ?_⟩, ?_⟩
  · rw [hfar k (by omega), hold k (Array.getElem?_eq_some_iff.1 ho).1 (fun e => by
      obtain ⟨_, cs, hcs⟩ := own_typed hrow k e
      rw [hcs] at ho
      cases ho
      cases hc)]
    exact ho
  · have hno : vL.ownBlock ≠ some k := fun e => by
      rcases hrow.2 with ⟨rfl, _⟩ | ⟨g', c, cur, rfl, _, _, _⟩
      · simp [Value.ownBlock] at e
      · have : g' = k := by simpa [Value.ownBlock] using e
        subst this
        exact hp ⟨X, _, _, _, rfl, hvL.cell, rfl⟩
    have hlt := (Array.getElem?_eq_some_iff.1 hr).1
    refine ⟨(hfar k (by omega)).trans (hold k hlt hno), ?_⟩
    rintro ⟨x', A, m, c, hx', hc, hA⟩
    cases hx'
    rw [hset.cell] at hc
    cases hc
    rcases h3 with h3 | h3
    · exact hno (by rw [← h3, ← hA]; rfl)
    · have : (Value.slice (some A) m c).ownBlock = some A.block := rfl
      rw [this, hA] at h3
      injection h3 with h3
      simp at h3
      omega
  · refine ⟨(hbX.then hb).set v2, v2, hset, ?_⟩
    have e : cells ((pre ++ [x]).map (·.1)) = cells (pre.map (·.1) ++ [x.1]) := by rw [List.map_append]; rfl
    rw [e, List.length_append, List.length_singleton]
    refine ⟨h1.1, ?_⟩
    rcases h1.2 with h0 | ⟨g', c, cur, rfl, hb', hgg, r⟩
    · exact .inl h0
    · exact .inr ⟨g', c, cur, rfl, hb', (hfar g' (by omega)).trans hgg, r⟩
/-- All that lay in w lies there still, but what two blocks hold. -/
structure BelXY (X Y : Nat) (w W : World) : Prop where
  os : W.os = w.os
  tape : W.tape = w.tape
  output : W.output = w.output
  size : w.heap.size ≤ W.heap.size
  block : ∀ k, k < w.heap.size → k ≠ X → k ≠ Y → W.heap[k]? = w.heap[k]?
theorem BelXY.refl (X Y : Nat) (w : World) : BelXY X Y w w := ⟨rfl, rfl, rfl, Nat.le_refl _, fun _ _ _ _ => rfl⟩
theorem BelXY.then {X Y : Nat} {w W W' : World} (h : BelXY X Y w W) (hb : Below w.heap.size W W') : BelXY X Y w W' :=
  ⟨hb.os.trans h.os, hb.tape.trans h.tape, hb.output.trans h.output, Nat.le_trans h.size hb.size, fun k hk hx hy => (hb.block k hk).trans (h.block k hk hx hy)⟩
theorem BelXY.setX {X Y : Nat} {w W : World} (h : BelXY X Y w W) (v : Value) : BelXY X Y w (W.setCell ⟨X, 0, none⟩ v) :=
  ⟨h.os, h.tape, h.output, by simpa [World.setCell] using h.size, fun k hk hx hy => (Below.heap_setCell W _ _ k hx).trans (h.block k hk hx hy)⟩
theorem BelXY.setY {X Y : Nat} {w W : World} (h : BelXY X Y w W) (v : Value) : BelXY X Y w (W.setCell ⟨Y, 0, none⟩ v) :=
  ⟨h.os, h.tape, h.output, by simpa [World.setCell] using h.size, fun k hk hx hy => (Below.heap_setCell W _ _ k hy).trans (h.block k hk hx hy)⟩
theorem belXY_own {β : Type} {X Y : Nat} {w : World} : OwnFrom w.heap.size (fun (_ : β) W => BelXY X Y w W) := fun _ A C row hs hg hr =>
  hs.then ((Below.refl _ A).grown hg hs.size (fun k e => (hr k e).1))
/-- The end of the last span. -/
def lastOf (pre : List SpT) : Int := match pre.getLast? with | some x => x.1.2 | none => -2
theorem lastOf_nil : lastOf [] = -2 := rfl
theorem lastOf_snoc (pre : List SpT) (x : SpT) : lastOf (pre ++ [x]) = x.1.2 := by unfold lastOf; simp
theorem lastOf_range (pre : List SpT) : -2 ≤ lastOf pre ∧ lastOf pre ≤ 4611686018427387903 := by
  unfold lastOf
  cases h : pre.getLast? with
  | none => simp
  | some x => have := x.2; simp only; omega
/-- Under way in a range that counts (box X) and keeps the last span's end (box Y). -/
def CountI (w : World) (X Y : Nat) (pre : List SpT) (W : World) : Prop :=
  BelXY X Y w W ∧ Boxed W X 3 (.int .i64 pre.length) ∧ Boxed W Y 3 (.int .i64 (lastOf pre))
theorem countI_own {w : World} {X Y : Nat} : OwnFrom w.heap.size (CountI w X Y) := by
  rintro pre A C row ⟨h1, h2, h3⟩ hg hr
  exact ⟨belXY_own (β := Unit) () A C row h1 hg hr, (grown_cells h2 hg hr).trans h2, (grown_cells h3 hg hr).trans h3⟩
theorem CountI.below {w W W' : World} {X Y : Nat} {pre : List SpT} (h : CountI w X Y pre W) (hb : Below W.heap.size W W') : CountI w X Y pre W' := by
  obtain ⟨h1, h2, h3⟩ := h
  exact ⟨h1.then (hb.mono h1.size), (hb.block X h2.lt).trans h2, (hb.block Y h3.lt).trans h3⟩
/-- One round more. -/
theorem count_step {w W : World} {X Y : Nat} {pre : List SpT} (x : SpT) (h : CountI w X Y pre W) (hX : X < w.heap.size) (hY : Y < w.heap.size) (hne : X ≠ Y) :
    KeepsFrom w.heap.size W ((W.setCell ⟨Y, 0, none⟩ (.int .i64 x.1.2)).setCell ⟨X, 0, none⟩ (.int .i64 ((pre.length : Int) + 1))) ∧ Kp none w.heap.size W ((W.setCell ⟨Y, 0, none⟩ (.int .i64 x.1.2)).setCell ⟨X, 0, none⟩ (.int .i64 ((pre.length : Int) + 1))) ∧ CountI w X Y (pre ++ [x]) ((W.setCell ⟨Y, 0, none⟩ (.int .i64 x.1.2)).setCell ⟨X, 0, none⟩ (.int .i64 ((pre.length : Int) + 1))) := by
  obtain ⟨h1, h2, h3⟩ := h
  have hs : ((W.setCell ⟨Y, 0, none⟩ (.int .i64 x.1.2)).setCell ⟨X, 0, none⟩ (.int .i64 ((pre.length : Int) + 1))).heap.size = W.heap.size := by simp [World.setCell]
  have hfar : ∀ k, k ≠ X → k ≠ Y → ((W.setCell ⟨Y, 0, none⟩ (.int .i64 x.1.2)).setCell ⟨X, 0, none⟩ (.int .i64 ((pre.length : Int) + 1))).heap[k]? = W.heap[k]? := fun k hx hy => (Below.heap_setCell _ _ _ k hx).trans (Below.heap_setCell _ _ _ k hy)
  refine ⟨⟨by rw [hs]; exact Nat.le_refl _, fun k o hk ho hc => by rw [hfar k (by omega) (by omega)]; exact ho⟩, Kp.from (by rw [hs]; exact Nat.le_refl _) (fun k hk _ => hfar k (by omega) (by omega)), (h1.setY _).setX _, ?_, ?_⟩
  · rw [List.length_append, List.length_singleton]
    have hb : Boxed (W.setCell ⟨Y, 0, none⟩ (.int .i64 x.1.2)) X 3 (.int .i64 pre.length) := (Below.heap_setCell W ⟨Y, 0, none⟩ (.int .i64 x.1.2) X hne).trans h2
    exact hb.set (.int .i64 ((pre.length : Int) + 1))
  · rw [lastOf_snoc]
    exact (Below.heap_setCell _ ⟨X, 0, none⟩ (.int .i64 ((pre.length : Int) + 1)) Y (fun e => hne e.symm)).trans (h3.set (.int .i64 x.1.2))
/-- What the document's order says of the next span. -/
theorem next_first {L : List Sp} (ho : Ok L) {LT : List SpT} (hLT : LT.map (·.1) = L) {pre : List SpT} {x : SpT} (hp : pre ++ [x] <+: LT) : L[pre.length]? = some x.1 ∧ lastOf pre + 2 ≤ x.1.1 := by
  obtain ⟨r, hr⟩ := hp
  subst hr
  subst hLT
  refine ⟨by simp [List.getElem?_append], ?_⟩
  rcases List.eq_nil_or_concat pre with rfl | ⟨q, y, rfl⟩
  · have := x.2
    rw [lastOf_nil]
    omega
  · rw [List.concat_eq_append, lastOf_snoc]
    have h1 := ho.1
    rw [List.concat_eq_append] at h1
    simp only [List.map_append, List.map_cons, List.map_nil, List.append_assoc, List.cons_append, List.nil_append] at h1
    have h2 := (List.pairwise_append.1 h1).2.1
    have h3 := (List.pairwise_cons.1 h2).1 x.1 (by simp)
    omega
/-- The sets lie as they lay. -/
theorem BelXY.kst {X Y : Nat} {W0 w W : World} {ga gb : Nat} {La Lb : List Sp} {v v' : Value} (h : BelXY X Y w W) (hk : Kst W0 (Two W0.heap.size ga La gb Lb) w) (hX : Boxed w X 3 v) (hY : Boxed w Y 3 v') (h0 : W0.heap.size ≤ X) (h0' : W0.heap.size ≤ Y) : Kst W0 (Two W0.heap.size ga La gb Lb) W := by
  have hs := hk.bel.size
  have nb : ∀ {g Z : Nat} {vv : Value} {L : List Sp} {u : Value}, SetAt w W0.heap.size g vv L → Boxed w Z 3 u → g ≠ Z := fun {g Z vv L u} h1 hZ e => by
    have := h1.blk
    rw [e, show w.heap[Z]? = _ from hZ] at this
    injection this with this
    injection this with _ this
    exact absurd this (by decide)
  have nr : ∀ {g Z : Nat} {vv : Value} {L : List Sp} {u : Value}, SetAt w W0.heap.size g vv L → Boxed w Z 3 u → ∀ k, vv.ownBlock = some k → k ≠ Z := fun {g Z vv L u} h1 hZ k e e' => by
    obtain ⟨_, cs, hc⟩ := own_typed h1.row k e
    rw [e', show w.heap[Z]? = _ from hZ] at hc
    injection hc with hc
    injection hc with _ hc
    exact absurd hc (by decide)
  have ne1 : ∀ {g : Nat} {vv : Value} {L : List Sp}, SetAt w W0.heap.size g vv L → SetAt W W0.heap.size g vv L := fun {g vv L} h1 => h1.move (h.block g h1.lt (nb h1 hX) (nb h1 hY)) (fun k e => h.block k (h1.row_lt k e) (nr h1 hX k e) (nr h1 hY k e))
  obtain ⟨v1, v2, h1, h2, h3, h4⟩ := hk.r
  exact ⟨⟨h.os.trans hk.bel.os, h.tape.trans hk.bel.tape, h.output.trans hk.bel.output, Nat.le_trans hs h.size, fun k hlt => (h.block k (by omega) (by omega) (by omega)).trans (hk.bel.block k hlt)⟩, v1, v2, ne1 h1, ne1 h2, h3, h4⟩
end Go.Proofs.Ytmkojmjjlcfohaa.Rg
