/- stands: does a set tell what the document's does; no condition. -/
import Derived.Test.YtmkojmjjlcfohaaRgRef3
import Derived.Test.YtmkojmjjlcfohaaRgRange
import Derived.Test.YtmkojmjjlcfohaaRdQuiet
import Derived.Sort.CutIn
import Derived.Sort.QuietIn
import Derived.Sort.QuietTacIn
import Derived.Sort.BigQuietIn
import Derived.Stop.RegionWithIn
import Derived.Deep.RegionHeld3
set_option linter.unusedVariables false
set_option linter.unusedSimpArgs false
namespace Go.Proofs.Ytmkojmjjlcfohaa.Rg
open Go.RowKit Go.Shelf Go.Proofs.YtmkojmjjlcfohaaW.PrintWords Go.Proofs.YtmkojmjjlcfohaaW.PrintLast Go.Proofs.YtmkojmjjlcfohaaW.PrintMore Go.Proofs.Ytmkojmjjlcfohaa.Rw
attribute [local go_sem] Oper.semAt_some
theorem res_one {P : Program} {fn : Func} {p : Tmp} {ty : TypeId} {v : Value} (h : fn.results = #[.cell p ty]) (tmps : Array Value) (w : World) (g : Nat) (hp : tmps.getD p undef = .pointer (some ⟨g, 0, none⟩)) (hu : ∀ w, (isAgg ty).run P w = .ok false w) (hc : w.cell? ⟨g, 0, none⟩ = some v) :
    (results fn tmps).run P w = .ok v w := by
  have hp' : tmps[p]?.getD undef = .pointer (some ⟨g, 0, none⟩) := by simpa using hp
  simp [results, h, hp', asAddr, go_sem, hu, hc]
theorem stop_ (p : Prop) (h : Aside0 p) : p := h.out
/-- Under way in a range that counts (box X). -/
def TickI (w : World) (X : Nat) (pre : List SpT) (W : World) : Prop := BelX X w W ∧ Boxed W X 3 (.int .i64 pre.length)
theorem tickI_own {w : World} {X : Nat} : OwnFrom w.heap.size (TickI w X) := by
  rintro pre A C row ⟨h1, h2⟩ hg hr
  exact ⟨belX_own (β := Unit) () A C row h1 hg hr, (grown_cells h2 hg hr).trans h2⟩
theorem TickI.below {w W W' : World} {X : Nat} {pre : List SpT} (h : TickI w X pre W) (hb : Below W.heap.size W W') : TickI w X pre W' := by
  obtain ⟨h1, h2⟩ := h
  exact ⟨h1.then (hb.mono h1.size), (hb.block X h2.lt).trans h2⟩
theorem tick_step {w W : World} {X : Nat} {pre : List SpT} (x : SpT) (h : TickI w X pre W) (hX : X < w.heap.size) :
    KeepsFrom w.heap.size W (W.setCell ⟨X, 0, none⟩ (.int .i64 ((pre.length : Int) + 1))) ∧ Kp none w.heap.size W (W.setCell ⟨X, 0, none⟩ (.int .i64 ((pre.length : Int) + 1))) ∧ TickI w X (pre ++ [x]) (W.setCell ⟨X, 0, none⟩ (.int .i64 ((pre.length : Int) + 1))) := by
  obtain ⟨h1, h2⟩ := h
  have hs : (W.setCell ⟨X, 0, none⟩ (.int .i64 ((pre.length : Int) + 1))).heap.size = W.heap.size := by simp [World.setCell]
  have hfar : ∀ k, k ≠ X → (W.setCell ⟨X, 0, none⟩ (.int .i64 ((pre.length : Int) + 1))).heap[k]? = W.heap[k]? := fun k hx => Below.heap_setCell _ _ _ k hx
  refine ⟨⟨by rw [hs]; exact Nat.le_refl _, fun k o hk ho hc => by rw [hfar k (by omega)]; exact ho⟩, Kp.from (by rw [hs]; exact Nat.le_refl _) (fun k hk _ => hfar k (by omega)), h1.set _, ?_⟩
  rw [List.length_append, List.length_singleton]
  exact h2.set (.int .i64 ((pre.length : Int) + 1))
theorem bl_then {W0 A B : World} (h : Below W0.heap.size W0 A) (hb : Below A.heap.size A B) : Below W0.heap.size W0 B := h.trans (hb.mono h.size)
theorem boxed_below {W0 W : World} {k : Nat} {t : TypeId} {v : Value} (h : Boxed W0 k t v) (hb : Below W0.heap.size W0 W) : Boxed W k t v := (hb.block _ h.lt).trans h
/-- A range over a set in a block that a round may leave: one way on, for all rounds and for a break. -/
theorem range_sp3 {F : Fence} {P : Program} {n : Nat} {g : Operand} {p : Tmp} (q : Nat) {assign body : Code} (b : Nat) {X : Exit → Act → World → Prop} {T : Array Value} {ds : List Deferred} {w : World}
    (hro : F.round = none) (h1 : 1 ≤ n) {gf : Nat} {lb : Array Value} (hg : ({ tmps := T, defers := ds } : Act).eval g = .func (.func gf) #[] lb) (hFg : F.fn gf) (eg : ∀ args w, (callFunc gf args).run P w = .ok (.enter gf args) w)
    {Kp : World → World → Prop} {S Sp : List SpT → Prop} {N : Nat} (hseq : SeqStopsK F (n - 1) P gf lb encS Kp S Sp N w)
    (hKt : ∀ {A B C : World}, Kp A B → Kp B C → Kp A C) (hKb : ∀ (W : World) (l : Nat) (o o' : Obj), w.heap.size ≤ l → W.heap[l]? = some o → o.isCells = false → o.isWalk = false → Kp W (W.putObj l o'))
    (I : List SpT → World → Prop) (Brk Bad : List SpT → Prop) (hbad : ∀ pre, Sp pre → ¬ Bad pre) (hI : OwnFrom w.heap.size I) (h0 : I [] w) (hsz : ∀ pre W, I pre W → w.heap.size ≤ W.heap.size) (hIb : ∀ pre W W', I pre W → Below W.heap.size W W' → I pre W') (hKw : ∀ W W', w.heap.size ≤ W.heap.size → Below W.heap.size W W' → Kp W W')
    (hassign : ∀ (l : Nat) (x : SpT) (W : World) (K : Act → World → Prop), K { tmps := TB T p q W.heap.size x, defers := [] } (W.alloc (.cells #[.int .i64 x.1.1, .int .i64 x.1.2] 39)) →
      assign.wpIn (F.inRound l) (n - 1 - 1) P (Exit.then K (fun _ _ _ => False)) { tmps := T.setIfInBounds p (.agg #[.int .i64 x.1.1, .int .i64 x.1.2]), defers := [] } W)
    (hbody : ∀ (l : Nat) (pre : List SpT) (x : SpT) (B : Nat) (W : World), w.heap.size ≤ B → I pre W → W.heap[B]? = some (.cells #[.int .i64 x.1.1, .int .i64 x.1.2] 39 (0, 0)) → pre.length < N → body.wpIn (F.inRound l) (n - 1 - 1) P (ownPostG w.heap.size Kp I (fun c pre W => (c = .exit b ∧ Brk pre ∧ I pre W) ∨ Bad pre) (pre ++ [x]) W) { tmps := TB T p q B x, defers := [] } W)
    (hrest : ∀ (D : Nat) (pre : List SpT) (W : World), w.heap.size ≤ D → (S pre ∨ Brk pre) → I pre W → W.heap[D]? = some (.deferred (some [])) → X .normal { tmps := T, defers := { target := .collected D, args := #[] } :: ds } W) :
    (Code.rangeFunc g #[p] assign body).wpIn F n P (Exit.inBlock b X) { tmps := T, defers := ds } w := by
  refine range_sp2 q hro h1 hg hFg eg hseq hKt hKb I (fun c pre W => (c = .exit b ∧ Brk pre ∧ I pre W) ∨ Bad pre) (fun c pre A C row h hg hr => ?_) hI h0 hsz hIb hKw hassign hbody (fun D xs W h1 h2 h3 h4 => hrest D xs W h1 (.inl h2) h3 h4) (fun D c pre W h1 h2 h3 h4 => ?_)
  · rcases h with ⟨h1, h2, h3⟩ | h
    · exact .inl ⟨h1, h2, hI pre A C row h3 hg hr⟩
    · exact .inr h
  · rcases h3 with ⟨rfl, h5, h6⟩ | h3
    · refine wpIn_exit ?_
      simp only [Exit.inBlock, if_true]
      exact hrest D pre W h1 (.inr h5) h6 h4
    · exact absurd h3 (hbad pre h2)
theorem bel_tick {X : Nat} {w4 w7 W : World} (h : Below w4.heap.size w4 w7) (hx : BelX X w7 W) (hX : w4.heap.size ≤ X) : Below w4.heap.size w4 W :=
  ⟨hx.os.trans h.os, hx.tape.trans h.tape, hx.output.trans h.output, Nat.le_trans h.size hx.size, fun k hk => (hx.block k (by have := h.size; omega) (by omega)).trans (h.block k hk)⟩
variable {w : World} {base s r : Nat} {v1 v2 : Value} {L : List Sp}
set_option maxRecDepth 100000 in
set_option maxHeartbeats 6400000 in
theorem stands_s (h1 : SetAt w base s v1 L) (h2 : RefAt w base r v2 L) (n : Int) (hn : n ≤ 9223372036854775807) : Calls Try.prog 32 #[.pointer (some ⟨s, 0, none⟩), .pointer (some ⟨r, 0, none⟩), .int .i64 n] w fun e w' => e = .returned (.bool true) ∧ Below w.heap.size w w' := by
  refine (callsIn_wide (n := 12)).1 ?_
  obtain ⟨Al, cl, rfl, hcl0, hcl1, _⟩ := row_form h2.row
  have H1 := Aside0.mk h1
  have H2 := Aside0.mk h2
  have hfew := h1.few
  clear h1 h2
  refine callsIn_of_wp_marks Try.func32 rfl trivial ?_ rfl
  simp only [Try.ntmps32, List.size_toArray, List.length_cons, List.length_nil, Nat.reduceAdd, Nat.reduceSub, Array.replicate_succ, Array.replicate_zero, List.push_toArray, List.append_toArray, List.nil_append, List.cons_append]
  refine wpIn_wide.2 ?_
  go_upto_region 1 with fail
  obtain ⟨B0, hB0⟩ : ∃ B0, w.heap.size = B0 := ⟨_, rfl⟩
  have hr4 : Boxed ((w.alloc (.cells #[.pointer (some ⟨r, 0, none⟩)] 66)).alloc (.cells #[.bool false] 4)) B0 66 (.pointer (some ⟨r, 0, none⟩)) := by rw [← hB0]; exact (Boxed.new w _ _).alloc _
  have hr6 : Boxed ((w.alloc (.cells #[.pointer (some ⟨r, 0, none⟩)] 66)).alloc (.cells #[.bool false] 4)) (B0 + 1) 4 (.bool false) := by
    have h := Boxed.new (w.alloc (.cells #[.pointer (some ⟨r, 0, none⟩)] 66)) 4 (.bool false)
    rw [World.size_alloc, hB0] at h
    exact h
  have hbw : Below w.heap.size w ((w.alloc (.cells #[.pointer (some ⟨r, 0, none⟩)] 66)).alloc (.cells #[.bool false] 4)) := (below_alloc (Below.refl _ w) _).alloc (by simp) _
  have heq : ∀ (b : Nat) (W : World), (binOp .eql 42 (.func (.func 44) #[] #[.pointer (some ⟨b, 0, none⟩)]) .nilFunc).run Try.prog W = .ok (.bool false) W := fun _ _ => by kernel_rfl
  obtain ⟨W0, hW0⟩ : ∃ W0, ((w.alloc (.cells #[.pointer (some ⟨r, 0, none⟩)] 66)).alloc (.cells #[.bool false] 4)) = W0 := ⟨_, rfl⟩
  rw [hW0] at hr4 hr6 hbw ⊢
  rw [hB0]
  clear hW0
  have HR4 := Aside0.mk hr4
  have HR6 := Aside0.mk hr6
  have HBW := Aside0.mk hbw
  have HB0 := Aside0.mk hB0
  have HB := Aside0.mk (Below.refl W0.heap.size W0)
  have S1 := Aside0.mk (H1.out.below hbw)
  have S2 := Aside0.mk (H2.out.below hbw)
  have e4 := hr4.cell
  have er := (H2.out.below hbw).c0
  clear hr4 hr6 hbw hB0
  obtain ⟨x1, hx1⟩ : ∃ x, (endsL L).1 = x := ⟨_, rfl⟩
  obtain ⟨x2, hx2⟩ : ∃ x, (endsL L).2 = x := ⟨_, rfl⟩
  have CE : Aside0 (∀ W, Below W0.heap.size W0 W → Calls Try.prog 27 #[.pointer (some ⟨s, 0, none⟩)] W fun e w' => e = .returned (.tuple #[.int .i64 x1, .int .i64 x2]) ∧ Below W0.heap.size W0 w') := ⟨fun W hW => (ends_s (S1.out.below hW)).mono (by rintro e w' ⟨rfl, k, rfl⟩; exact ⟨by rw [hx1, hx2], bl_then hW (bl_drewN k)⟩)⟩
  have CR : Aside0 (∀ W, Below W0.heap.size W0 W → Calls Try.prog 53 #[.pointer (some ⟨r, 0, none⟩)] W fun e w' => e = .returned (.tuple #[.int .i64 x1, .int .i64 x2]) ∧ Below W0.heap.size W0 w') := ⟨fun W hW => (rends_s (S2.out.below hW)).mono (by rintro e w' ⟨rfl, k, rfl⟩; exact ⟨by rw [hx1, hx2], bl_then hW (bl_drewN k)⟩)⟩
  clear hx1 hx2
  go_wp2_with (first
    | (go_at_call 27; refine (CE.out _ HB.out).mono ?_; rintro e w2 ⟨rfl, hb⟩; clear HB e4 er; have HB := Aside0.mk hb; have e4 := (boxed_below HR4.out hb).cell; have er := (S2.out.below hb).c0; clear hb)
    | (go_at_call 53; refine (CR.out _ HB.out).mono ?_; rintro e w3 ⟨rfl, hb⟩; clear HB e4 er; have HB := Aside0.mk hb; have e4 := (boxed_below HR4.out hb).cell; have er := (S2.out.below hb).c0; clear hb)
    | (go_at_call 21; refine (all_s _ _).mono ?_; rintro e w4 ⟨rfl, hw4⟩; refine stop_ _ ?_))
  have hb4 : Boxed w4 w3.heap.size 34 (.pointer (some ⟨s, 0, none⟩)) := by rw [hw4]; exact Boxed.new w3 _ _
  have hb := bl_then HB.out (below_alloc (Below.refl _ w3) (.cells #[.pointer (some ⟨s, 0, none⟩)] 34))
  rw [← hw4] at hb ⊢
  obtain ⟨CB, hCB⟩ : ∃ CB, w3.heap.size = CB := ⟨_, rfl⟩
  rw [hCB] at hb4 ⊢
  have n1 := Aside0.mk (S1.out.below hb)
  have n2 := Aside0.mk (S2.out.below hb)
  have n3 := Aside0.mk (boxed_below HR4.out hb)
  have n4 := Aside0.mk (boxed_below HR6.out hb)
  have n5 := Aside0.mk (HBW.out.trans (hb.mono HBW.out.size))
  have hwB : B0 + 1 < w4.heap.size := n4.out.lt
  have hBw : w.heap.size ≤ B0 := by have := HB0.out; omega
  clear hw4 HB e4 er hCB hb S1 S2 HR4 HR6 HBW CE CR
  have S1 := n1
  have S2 := n2
  have HR4 := n3
  have HR6 := n4
  have HBW := n5
  clear n1 n2 n3 n4 n5
  have HB4 := Aside0.mk hb4
  clear hb4
  have HB := Aside0.mk (Below.refl w4.heap.size w4)
  have e4 := HR4.out.cell
  have er := S2.out.c0
  obtain ⟨x3, hx3⟩ : ∃ x, hasL L n = x := ⟨_, rfl⟩
  obtain ⟨x4, hx4⟩ : ∃ x, gapL L n = x := ⟨_, rfl⟩
  have CH : Aside0 (∀ W, Below w4.heap.size w4 W → Calls Try.prog 18 #[.pointer (some ⟨s, 0, none⟩), .int .i64 n] W fun e w' => e = .returned (.bool x3) ∧ Below w4.heap.size w4 w') := ⟨fun W hW => (has_s (S1.out.below hW) n hn).mono (by rintro e w' ⟨rfl, hb⟩; exact ⟨by rw [hx3], bl_then hW hb⟩)⟩
  have CI : Aside0 (∀ W, Below w4.heap.size w4 W → Calls Try.prog 54 #[.pointer (some ⟨r, 0, none⟩), .int .i64 n] W fun e w' => e = .returned (.bool x3) ∧ Below w4.heap.size w4 w') := ⟨fun W hW => (rhas_s (S2.out.below hW) n).mono (by rintro e w' ⟨rfl, rfl⟩; exact ⟨by rw [hx3], hW⟩)⟩
  have CG : Aside0 (∀ W, Below w4.heap.size w4 W → Calls Try.prog 28 #[.pointer (some ⟨s, 0, none⟩), .int .i64 n] W fun e w' => e = .returned (.int .i64 x4) ∧ Below w4.heap.size w4 w') := ⟨fun W hW => (gap_s (S1.out.below hW) n hn).mono (by rintro e w' ⟨rfl, hb⟩; exact ⟨by rw [hx4], bl_then hW hb⟩)⟩
  have CF : Aside0 (∀ W, Below w4.heap.size w4 W → Calls Try.prog 55 #[.pointer (some ⟨r, 0, none⟩), .int .i64 n] W fun e w' => e = .returned (.int .i64 x4) ∧ Below w4.heap.size w4 w') := ⟨fun W hW => (rgap_s (S2.out.below hW) n hn).mono (by rintro e w' ⟨rfl, rfl⟩; exact ⟨by rw [hx4], hW⟩)⟩
  have CS : Aside0 (∀ W, Below w4.heap.size w4 W → Calls Try.prog 20 #[.pointer (some ⟨s, 0, none⟩)] W fun e w' => e = .returned (.int .i64 L.length) ∧ Below w4.heap.size w4 w') := ⟨fun W hW => (spans_s (S1.out.below hW)).mono (by rintro e w' ⟨rfl, hb⟩; exact ⟨rfl, bl_then hW hb⟩)⟩
  clear hx3 hx4
  refine ⟨?_⟩
  go_upto_region 4 with fail
  go_region_held3 (fun w' => w'.cell? ⟨B0, 0, none⟩ = some (.pointer (some ⟨r, 0, none⟩)) ∧ w'.cell? ⟨r, 0, none⟩ = some (.slice Al L.length cl)) (first | exact ⟨e4, er⟩ | (simp [go_sem, *]; done))
    (first
      | (go_at_call 20; with_reducible refine (CS.out _ (show Below w4.heap.size w4 _ from by first | exact HB.out | exact HB.out.drew | exact bl_then HB.out (bl_drewN _))).mono ?_; rintro e w5 ⟨rfl, hb⟩; clear HB e4 er; have HB := Aside0.mk hb; have e4 := (boxed_below HR4.out hb).cell; have er := (S2.out.below hb).c0; clear hb)
      | (go_at_call 18; with_reducible refine (CH.out _ (show Below w4.heap.size w4 _ from by first | exact HB.out | exact HB.out.drew | exact bl_then HB.out (bl_drewN _))).mono ?_; rintro e w5 ⟨rfl, hb⟩; clear HB e4 er; have HB := Aside0.mk hb; have e4 := (boxed_below HR4.out hb).cell; have er := (S2.out.below hb).c0; clear hb)
      | (go_at_call 54; with_reducible refine (CI.out _ (show Below w4.heap.size w4 _ from by first | exact HB.out | exact HB.out.drew | exact bl_then HB.out (bl_drewN _))).mono ?_; rintro e w5 ⟨rfl, hb⟩; clear HB e4 er; have HB := Aside0.mk hb; have e4 := (boxed_below HR4.out hb).cell; have er := (S2.out.below hb).c0; clear hb)
      | (go_at_call 28; with_reducible refine (CG.out _ (show Below w4.heap.size w4 _ from by first | exact HB.out | exact HB.out.drew | exact bl_then HB.out (bl_drewN _))).mono ?_; rintro e w5 ⟨rfl, hb⟩; clear HB e4 er; have HB := Aside0.mk hb; have e4 := (boxed_below HR4.out hb).cell; have er := (S2.out.below hb).c0; clear hb)
      | (go_at_call 55; with_reducible refine (CF.out _ (show Below w4.heap.size w4 _ from by first | exact HB.out | exact HB.out.drew | exact bl_then HB.out (bl_drewN _))).mono ?_; rintro e w5 ⟨rfl, hb⟩; clear HB e4 er; have HB := Aside0.mk hb; have e4 := (boxed_below HR4.out hb).cell; have er := (S2.out.below hb).c0; clear hb))
  clear e4 er heq CH CI CG CF CS
  go_wp2_with fail
  refine (wpIn_wide (n := 12)).1 ?_
  refine wpIn_loop_rounds 3 ?_
  rw [roundsIn_succ]
  obtain ⟨RB, hRB⟩ : ∃ RB, w5.heap.size = RB := ⟨_, rfl⟩
  have hrb := Boxed.new w5 3 (.int .i64 0)
  have hb6 := bl_then HB.out (below_alloc (Below.refl _ w5) (.cells #[.int .i64 0] 3))
  have hs6 : (w5.alloc (.cells #[.int .i64 0] 3)).heap.size = RB + 1 := by simp; omega
  rw [hRB] at hrb ⊢
  obtain ⟨w6, hw6⟩ : ∃ w6, w5.alloc (.cells #[.int .i64 0] 3) = w6 := ⟨_, rfl⟩
  rw [hw6] at hrb hb6 hs6 ⊢
  have hw4r : w4.heap.size ≤ RB := by have := HB.out.size; omega
  clear hw6 hRB HB
  have c12 := hrb.cell
  have HRB := Aside0.mk hrb
  have HB6 := Aside0.mk hb6
  have HS6 := Aside0.mk hs6
  clear hrb hb6 hs6
  gi_wp2_with fail
  have hi7 := Boxed.new w6 3 (.int .i64 0)
  have hb7 := bl_then HB6.out (below_alloc (Below.refl _ w6) (.cells #[.int .i64 0] 3))
  have hs7 : (w6.alloc (.cells #[.int .i64 0] 3)).heap.size = RB + 2 := by have := HS6.out; simp; omega
  have hr7 := HRB.out.alloc (.cells #[.int .i64 0] 3)
  have n0 := HS6.out
  rw [n0] at hi7 ⊢
  obtain ⟨w7, hw7⟩ : ∃ w7, w6.alloc (.cells #[.int .i64 0] 3) = w7 := ⟨_, rfl⟩
  rw [hw7] at hi7 hb7 hs7 hr7 ⊢
  clear hw7 c12 HRB HB6 HS6 n0
  have HI7 := Aside0.mk hi7
  have HB7 := Aside0.mk hb7
  have HS7 := Aside0.mk hs7
  have HRB := Aside0.mk hr7
  have S17 := Aside0.mk (S1.out.below hb7)
  have S27 := Aside0.mk (S2.out.below hb7)
  have HLV := Aside0.mk (lift_val L S1.out.ok)
  have HLL : Aside0 ((lift L S1.out.ok).length = L.length) := ⟨by have := congrArg List.length HLV.out; rwa [List.length_map] at this⟩
  have hcb : Boxed w7 CB 34 (.pointer (some ⟨s, 0, none⟩)) := boxed_below HB4.out hb7
  have HCB := Aside0.mk hcb
  clear hi7 hb7 hs7 hr7 hcb
  refine range_sp3 14 2 rfl (by omega) rfl trivial (enters_of Try.func44 (by kernel_rfl) rfl)
    (seq_all none _ (by omega) w7 CB base s v1 L (lift L S1.out.ok) HLV.out HCB.out.cell S17.out (fun x hx => nomatch hx)) Kp.t (Kp.b (fun x hx => nomatch hx))
    (TickI w7 (RB + 1)) (fun pre => pre.length = 2) (fun pre => ¬ pre <+: lift L S1.out.ok) (fun pre h h' => h' h) tickI_own ⟨BelX.refl _ _, HI7.out⟩ (fun pre W h => h.1.size) (fun pre W W' h hb => h.below hb) (fun W W' hs hb => Kp.below hb (fun x hx => nomatch hx)) ?assign ?body ?rest
  case assign =>
    intro l' x W2 K hk
    have HK2 := Aside0.mk hk
    clear hk
    simp only [List.setIfInBounds_toArray, List.set_cons_succ, List.set_cons_zero, TB] at HK2 ⊢
    gi_wp2
    exact HK2.out
  case body =>
    intro l' pre x B W2 hB hi hBx hp
    have hplt : pre.length < L.length := by rw [← HLL.out]; exact hp
    obtain ⟨y, hy⟩ : ∃ y, L[pre.length]? = some y := ⟨_, List.getElem?_eq_getElem hplt⟩
    have c0 : W2.cell? ⟨B, 0, none⟩ = some (.int .i64 x.1.1) := by rw [cell_of_row W2 B _ _ _ _ hBx]; rfl
    have c1' : W2.cell? ⟨B, 1, none⟩ = some (.int .i64 x.1.2) := by rw [cell_of_row W2 B _ _ _ _ hBx]; rfl
    have ci := hi.2.cell
    have fi := hi.2.frozen
    have hold : ∀ k, k < RB + 1 → W2.heap[k]? = w7.heap[k]? := fun k hk => hi.1.block k (by have := HS7.out; omega) (by omega)
    have hwr : w4.heap.size ≤ RB := hw4r
    have e4 : W2.cell? ⟨B0, 0, none⟩ = some (.pointer (some ⟨r, 0, none⟩)) := (World.cell?_of_block (a := ⟨B0, 0, none⟩) (hold B0 (by omega))).trans (boxed_below HR4.out HB7.out).cell
    have er : W2.cell? ⟨r, 0, none⟩ = some (.slice Al L.length cl) := (World.cell?_of_block (a := ⟨r, 0, none⟩) (hold r (by have := S2.out.lt; omega))).trans S27.out.c0
    have c12 : W2.cell? ⟨RB, 0, none⟩ = some (.int .i64 0) := (World.cell?_of_block (a := ⟨RB, 0, none⟩) (hold RB (by omega))).trans HRB.out.cell
    have hr0 : Boxed W2 (B0 + 1) 4 (.bool false) := (hold (B0 + 1) (by omega)).trans (boxed_below HR6.out HB7.out)
    obtain ⟨gl, cl2, hvl, hcl1, hcl2, a0, a1⟩ := row_at S27.out.row pre.length y hy
    injection hvl with hv1 _ hv2
    subst hv1; subst hv2
    have hgl : gl < RB + 1 := by have := S2.out.row_lt gl rfl; omega
    have l0 : W2.cell? ⟨gl, pre.length * 2, none⟩ = some (.int .i64 y.1) := (World.cell?_of_block (a := ⟨gl, _, none⟩) (hold gl hgl)).trans a0
    have l1 : W2.cell? ⟨gl, pre.length * 2 + 1, none⟩ = some (.int .i64 y.2) := (World.cell?_of_block (a := ⟨gl, _, none⟩) (hold gl hgl)).trans a1
    have hneq : ∀ W', (binOp .neq 39 (.agg #[.int .i64 x.1.1, .int .i64 x.1.2]) (.agg #[.int .i64 y.1, .int .i64 y.2])).run Try.prog W' = .ok (.bool (!(x.1.1 == y.1 && x.1.2 == y.2))) W' := fun W' => neq_span _ _ _ _ W'
    have HNF := Aside0.mk (fun hp : pre ++ [x] <+: lift L S1.out.ok => next_first S1.out.ok HLV.out hp)
    have HHI := Aside0.mk hi
    have HBX2 := Aside0.mk hBx
    have HY := Aside0.mk hy
    have HR0 := Aside0.mk hr0
    have hlt1 : (pre.length : Int) < L.length := by omega
    have d1 : decide ((L.length : Int) ≤ (pre.length : Int)) = false := by simp; omega
    have d2 : decide (L.length ≤ pre.length) = false := by simp; omega
    clear hi hy hBx hp hold a0 a1 hr0
    simp only [List.setIfInBounds_toArray, List.set_cons_succ, List.set_cons_zero, TB]
    by_cases hc1 : (x.1.1 == y.1 && x.1.2 == y.2) = true
    · rw [hc1] at hneq
      gi_upto_region 12 with fail
      refine Rq.wpIn_quiet_round (by kernel_rfl) (by kernel_rfl) (by kernel_rfl) ?_
      repeat (gi_big_quiet_step (fail))
      refine wpQuietIn_nil ?_
      rintro _ ⟨nq, rfl⟩
      obtain ⟨W3, hW3⟩ : ∃ W3, W2.drewN nq = W3 := ⟨_, rfl⟩
      have hbd : Below W2.heap.size W2 W3 := by rw [← hW3]; exact bl_drewN nq
      have hi3 := HHI.out.below hbd
      rw [hW3]
      clear hW3 ci fi er l0 l1 c0 c1'
      have ci := hi3.2.cell
      have fi := hi3.2.frozen
      have c12' : W3.cell? ⟨RB, 0, none⟩ = some (.int .i64 0) := pw_cell_below hbd c12
      have HBD := Aside0.mk hbd
      have HI3 := Aside0.mk hi3
      have hpl : (pre.length : Int) + 1 ≤ 65536 := by omega
      clear hbd hi3 hneq d1 d2 hc1 c12 e4
      by_cases h2 : pre.length = 1
      · have d3 : ((pre.length : Int) + 1 == 2) = true := by simp; omega
        gi_wp2
        obtain ⟨k1, k2, k3⟩ := tick_step x HI3.out (by have := HS7.out; omega)
        have e2 : (pre.length : Int) + 1 = 2 := by omega
        rw [e2] at k1 k3
        exact ⟨(keeps_below HBD.out).trans k1, .inl ⟨rfl, by simp; omega, k3⟩⟩
      · have d3 : ((pre.length : Int) + 1 == 2) = false := by simp; omega
        gi_wp2
        obtain ⟨k1, k2, k3⟩ := tick_step x HI3.out (by have := HS7.out; omega)
        exact ⟨(keeps_below HBD.out).trans k1, (Kp.below (X := none) HBD.out (fun _ hx => nomatch hx)).t k2, k3⟩
    · have hno : ¬ (pre ++ [x] <+: lift L S1.out.ok) := fun hp => by
        have h := (HNF.out hp).1
        rw [HY.out] at h
        injection h with h
        rw [← h] at hc1
        simp at hc1
      have hc1' : (x.1.1 == y.1 && x.1.2 == y.2) = false := by simpa using hc1
      rw [hc1'] at hneq
      gi_upto_region 12 with fail
      refine Rq.wpIn_quiet_round (by kernel_rfl) (by kernel_rfl) (by kernel_rfl) ?_
      repeat (gi_big_quiet_step (fail))
      refine wpQuietIn_nil ?_
      rintro _ ⟨nq, rfl⟩
      obtain ⟨W3, hW3⟩ : ∃ W3, W2.drewN nq = W3 := ⟨_, rfl⟩
      have hbd : Below W2.heap.size W2 W3 := by rw [← hW3]; exact bl_drewN nq
      have hi3 := HHI.out.below hbd
      rw [hW3]
      clear hW3 ci fi er l0 l1 c0 c1'
      have hr3 := (hbd.block _ HR0.out.lt).trans HR0.out
      have r0 := Boxed.cell (t := 4) hr3
      have r1 := Boxed.frozen (t := 4) hr3
      have HBD := Aside0.mk hbd
      clear hbd hi3 hneq d1 d2 hr3 hc1 hc1' e4 c12
      gi_wp2
      exact ⟨(keeps_below HBD.out).trans ⟨by simp [World.setCell], fun k o hk ho _ => (Below.heap_setCell W3 ⟨B0 + 1, 0, none⟩ _ k (by have := HS7.out; simp only; omega)).trans ho⟩, .inr hno⟩
  case rest =>
    intro D pre W hD hS hi hK
    have hbW := bel_tick HB7.out hi.1 (by omega)
    have c12 : W.cell? ⟨RB, 0, none⟩ = some (.int .i64 0) := (World.cell?_of_block (a := ⟨RB, 0, none⟩) (hi.1.block RB (by have := HS7.out; omega) (by omega))).trans HRB.out.cell
    have HBV := Aside0.mk hbW
    have HK := Aside0.mk hK
    clear hS hi hK hbW
    gi_upto_region 16 with fail
    gi_quiet (fail)
    obtain ⟨Wq, hWq⟩ : ∃ Wq, W.drewN nq = Wq := ⟨_, rfl⟩
    have hbq : Below W.heap.size W Wq := by rw [← hWq]; exact bl_drewN nq
    rw [hWq]
    clear hWq
    have n0 := Aside0.mk (bl_then HBV.out hbq)
    have n1 := Aside0.mk ((hbq.block D (Array.getElem?_eq_some_iff.1 HK.out).1).trans HK.out)
    have n2 := pw_cell_below hbq c12
    clear HBV HK c12 hbq
    have HBV := n0
    have HK := n1
    have c12 := n2
    clear n0 n1 n2
    gi_wp2
    rw [roundsIn_succ]
    gi_wp2
    obtain ⟨R2, hR2⟩ : ∃ R2, Wq.heap.size = R2 := ⟨_, rfl⟩
    have hr9 := (Boxed.new Wq 3 (.int .i64 1)).alloc (.cells #[.int .i64 0] 3)
    have hi9 := Boxed.new (Wq.alloc (.cells #[.int .i64 1] 3)) 3 (.int .i64 0)
    have hb8 : Below Wq.heap.size Wq ((Wq.alloc (.cells #[.int .i64 1] 3)).alloc (.cells #[.int .i64 0] 3)) := (below_alloc (Below.refl _ Wq) _).alloc (by simp) _
    have hs9 : ((Wq.alloc (.cells #[.int .i64 1] 3)).alloc (.cells #[.int .i64 0] 3)).heap.size = R2 + 2 := by simp; omega
    have hb9 := bl_then HBV.out hb8
    have hk9 := (hb8.block D (Array.getElem?_eq_some_iff.1 HK.out).1).trans HK.out
    have hdr : D < R2 := by rw [← hR2]; exact (Array.getElem?_eq_some_iff.1 HK.out).1
    have hw4s : w4.heap.size ≤ R2 := by have := HBV.out.size; omega
    rw [World.size_alloc, hR2] at hi9
    rw [hR2] at hr9 ⊢
    obtain ⟨w9, hw9⟩ : ∃ w9, ((Wq.alloc (.cells #[.int .i64 1] 3)).alloc (.cells #[.int .i64 0] 3)) = w9 := ⟨_, rfl⟩
    rw [hw9] at hr9 hi9 hs9 hb9 hk9 ⊢
    clear hw9 hb8 hR2 HBV HK c12
    have HK9 := Aside0.mk hk9
    clear hk9
    have HI9 := Aside0.mk hi9
    have HB9 := Aside0.mk hb9
    have HS9 := Aside0.mk hs9
    have HRC := Aside0.mk hr9
    have S19 := Aside0.mk (S1.out.below hb9)
    have S29 := Aside0.mk (S2.out.below hb9)
    have HLW := Aside0.mk (lift_val L S1.out.ok)
    have HLM : Aside0 ((lift L S1.out.ok).length = L.length) := ⟨by have := congrArg List.length HLW.out; rwa [List.length_map] at this⟩
    have hcc : Boxed w9 CB 34 (.pointer (some ⟨s, 0, none⟩)) := boxed_below HB4.out hb9
    have HCC := Aside0.mk hcc
    clear hi9 hb9 hs9 hr9 hcc
    refine range_sp3 14 2 rfl (by omega) rfl trivial (enters_of Try.func44 (by kernel_rfl) rfl)
      (seq_all none _ (by omega) w9 CB base s v1 L (lift L S1.out.ok) HLW.out HCC.out.cell S19.out (fun x hx => nomatch hx)) Kp.t (Kp.b (fun x hx => nomatch hx))
      (TickI w9 (R2 + 1)) (fun _ => False) (fun pre => ¬ pre <+: lift L S1.out.ok) (fun pre h h' => h' h) tickI_own ⟨BelX.refl _ _, HI9.out⟩ (fun pre W h => h.1.size) (fun pre W W' h hb => h.below hb) (fun W W' hs hb => Kp.below hb (fun x hx => nomatch hx)) ?assign2 ?body2 ?rest2
    case assign2 =>
      intro l' x W2 K hk
      have HK2 := Aside0.mk hk
      clear hk
      simp only [List.setIfInBounds_toArray, List.set_cons_succ, List.set_cons_zero, TB] at HK2 ⊢
      gi_wp2
      exact HK2.out
    case body2 =>
      intro l' pre x B W2 hB hi hBx hp
      have hplt : pre.length < L.length := by rw [← HLM.out]; exact hp
      obtain ⟨y, hy⟩ : ∃ y, L[pre.length]? = some y := ⟨_, List.getElem?_eq_getElem hplt⟩
      have c0 : W2.cell? ⟨B, 0, none⟩ = some (.int .i64 x.1.1) := by rw [cell_of_row W2 B _ _ _ _ hBx]; rfl
      have c1' : W2.cell? ⟨B, 1, none⟩ = some (.int .i64 x.1.2) := by rw [cell_of_row W2 B _ _ _ _ hBx]; rfl
      have ci := hi.2.cell
      have fi := hi.2.frozen
      have hold : ∀ k, k < R2 + 1 → W2.heap[k]? = w9.heap[k]? := fun k hk => hi.1.block k (by have := HS9.out; omega) (by omega)
      have hwr : w4.heap.size ≤ R2 := hw4s
      have e4 : W2.cell? ⟨B0, 0, none⟩ = some (.pointer (some ⟨r, 0, none⟩)) := (World.cell?_of_block (a := ⟨B0, 0, none⟩) (hold B0 (by omega))).trans (boxed_below HR4.out HB9.out).cell
      have er : W2.cell? ⟨r, 0, none⟩ = some (.slice Al L.length cl) := (World.cell?_of_block (a := ⟨r, 0, none⟩) (hold r (by have := S2.out.lt; omega))).trans S29.out.c0
      have c12 : W2.cell? ⟨R2, 0, none⟩ = some (.int .i64 1) := (World.cell?_of_block (a := ⟨R2, 0, none⟩) (hold R2 (by omega))).trans HRC.out.cell
      have hr0 : Boxed W2 (B0 + 1) 4 (.bool false) := (hold (B0 + 1) (by omega)).trans (boxed_below HR6.out HB9.out)
      obtain ⟨gl, cl2, hvl, hcl1, hcl2, a0, a1⟩ := row_at S29.out.row pre.length y hy
      injection hvl with hv1 _ hv2
      subst hv1; subst hv2
      have hgl : gl < R2 + 1 := by have := S2.out.row_lt gl rfl; omega
      have l0 : W2.cell? ⟨gl, pre.length * 2, none⟩ = some (.int .i64 y.1) := (World.cell?_of_block (a := ⟨gl, _, none⟩) (hold gl hgl)).trans a0
      have l1 : W2.cell? ⟨gl, pre.length * 2 + 1, none⟩ = some (.int .i64 y.2) := (World.cell?_of_block (a := ⟨gl, _, none⟩) (hold gl hgl)).trans a1
      have hneq : ∀ W', (binOp .neq 39 (.agg #[.int .i64 x.1.1, .int .i64 x.1.2]) (.agg #[.int .i64 y.1, .int .i64 y.2])).run Try.prog W' = .ok (.bool (!(x.1.1 == y.1 && x.1.2 == y.2))) W' := fun W' => neq_span _ _ _ _ W'
      have HNF := Aside0.mk (fun hp : pre ++ [x] <+: lift L S1.out.ok => next_first S1.out.ok HLW.out hp)
      have HHI := Aside0.mk hi
      have HBX2 := Aside0.mk hBx
      have HY := Aside0.mk hy
      have HR0 := Aside0.mk hr0
      have hlt1 : (pre.length : Int) < L.length := by omega
      have d1 : decide ((L.length : Int) ≤ (pre.length : Int)) = false := by simp; omega
      have d2 : decide (L.length ≤ pre.length) = false := by simp; omega
      clear hi hy hBx hp hold a0 a1 hr0
      simp only [List.setIfInBounds_toArray, List.set_cons_succ, List.set_cons_zero, TB]
      by_cases hc1 : (x.1.1 == y.1 && x.1.2 == y.2) = true
      · rw [hc1] at hneq
        gi_upto_region 12 with fail
        refine Rq.wpIn_quiet_round (by kernel_rfl) (by kernel_rfl) (by kernel_rfl) ?_
        repeat (gi_big_quiet_step (fail))
        refine wpQuietIn_nil ?_
        rintro _ ⟨nq, rfl⟩
        obtain ⟨W3, hW3⟩ : ∃ W3, W2.drewN nq = W3 := ⟨_, rfl⟩
        have hbd : Below W2.heap.size W2 W3 := by rw [← hW3]; exact bl_drewN nq
        have hi3 := HHI.out.below hbd
        rw [hW3]
        clear hW3 ci fi er l0 l1 c0 c1'
        have ci := hi3.2.cell
        have fi := hi3.2.frozen
        have c12' : W3.cell? ⟨R2, 0, none⟩ = some (.int .i64 1) := pw_cell_below hbd c12
        have HBD := Aside0.mk hbd
        have HI3 := Aside0.mk hi3
        have hpl : (pre.length : Int) + 1 ≤ 65536 := by omega
        clear hbd hi3 hneq d1 d2 hc1 c12 e4
        gi_wp2
        obtain ⟨k1, k2, k3⟩ := tick_step x HI3.out (by have := HS9.out; omega)
        exact ⟨(keeps_below HBD.out).trans k1, (Kp.below (X := none) HBD.out (fun _ hx => nomatch hx)).t k2, k3⟩
      · have hno : ¬ (pre ++ [x] <+: lift L S1.out.ok) := fun hp => by
          have h := (HNF.out hp).1
          rw [HY.out] at h
          injection h with h
          rw [← h] at hc1
          simp at hc1
        have hc1' : (x.1.1 == y.1 && x.1.2 == y.2) = false := by simpa using hc1
        rw [hc1'] at hneq
        gi_upto_region 12 with fail
        refine Rq.wpIn_quiet_round (by kernel_rfl) (by kernel_rfl) (by kernel_rfl) ?_
        repeat (gi_big_quiet_step (fail))
        refine wpQuietIn_nil ?_
        rintro _ ⟨nq, rfl⟩
        obtain ⟨W3, hW3⟩ : ∃ W3, W2.drewN nq = W3 := ⟨_, rfl⟩
        have hbd : Below W2.heap.size W2 W3 := by rw [← hW3]; exact bl_drewN nq
        have hi3 := HHI.out.below hbd
        rw [hW3]
        clear hW3 ci fi er l0 l1 c0 c1'
        have hr3 := (hbd.block _ HR0.out.lt).trans HR0.out
        have r0 := Boxed.cell (t := 4) hr3
        have r1 := Boxed.frozen (t := 4) hr3
        have HBD := Aside0.mk hbd
        clear hbd hi3 hneq d1 d2 hr3 hc1 hc1' e4 c12
        gi_wp2
        exact ⟨(keeps_below HBD.out).trans ⟨by simp [World.setCell], fun k o hk ho _ => (Below.heap_setCell W3 ⟨B0 + 1, 0, none⟩ _ k (by have := HS9.out; simp only; omega)).trans ho⟩, hno⟩
    case rest2 =>
      intro D2 pre W hD2 hS hi hK2
      have hlen : pre.length = L.length := by
        rcases hS with rfl | h
        · exact HLM.out
        · exact h.elim
      have hbW := bel_tick HB9.out hi.1 (by omega)
      have hold : ∀ k, k < R2 + 1 → W.heap[k]? = w9.heap[k]? := fun k hk => hi.1.block k (by have := HS9.out; omega) (by omega)
      have c12 : W.cell? ⟨R2, 0, none⟩ = some (.int .i64 1) := (World.cell?_of_block (a := ⟨R2, 0, none⟩) (hold R2 (by omega))).trans HRC.out.cell
      have ci := hi.2.cell
      rw [hlen] at ci
      have hD1 : W.heap[D]? = some (.deferred (some [])) := (hold D (by omega)).trans HK9.out
      have e4 := (boxed_below HR4.out hbW).cell
      have er := (S2.out.below hbW).c0
      have HBV := Aside0.mk hbW
      have HK2 := Aside0.mk hK2
      have HK1 := Aside0.mk hD1
      clear hS hi hK2 hD1 hbW hold hlen
      gi_upto_region 16 with fail
      gi_quiet (fail)
      obtain ⟨Wz, hWz⟩ : ∃ Wz, W.drewN nq = Wz := ⟨_, rfl⟩
      have hbq : Below W.heap.size W Wz := by rw [← hWz]; exact bl_drewN nq
      rw [hWz]
      clear hWz
      have n0 := Aside0.mk (bl_then HBV.out hbq)
      have n1 := Aside0.mk ((hbq.block D (Array.getElem?_eq_some_iff.1 HK1.out).1).trans HK1.out)
      have n3 := Aside0.mk ((hbq.block D2 (Array.getElem?_eq_some_iff.1 HK2.out).1).trans HK2.out)
      have n2 := pw_cell_below hbq c12
      clear HBV HK1 HK2 c12 ci e4 er hbq
      have HBV := n0
      have HK1 := n1
      have HK2 := n3
      have c12 := n2
      clear n0 n1 n2 n3
      have hr6 := boxed_below HR6.out HBV.out
      have r0 := hr6.cell
      have r1 := hr6.frozen
      have hB0z : B0 + 1 < Wz.heap.size := hr6.lt
      have HR6z := Aside0.mk hr6
      clear hr6
      gi_wp2
      rw [roundsIn_succ]
      gi_wp2
      have hbz := below_alloc (Below.refl Wz.heap.size Wz) (.cells #[.int .i64 2] 3)
      have n0 := Aside0.mk (bl_then HBV.out hbz)
      have n1 := Aside0.mk ((hbz.block D (Array.getElem?_eq_some_iff.1 HK1.out).1).trans HK1.out)
      have n3 := Aside0.mk ((hbz.block D2 (Array.getElem?_eq_some_iff.1 HK2.out).1).trans HK2.out)
      have n6 := Aside0.mk ((hbz.block (B0 + 1) HR6z.out.lt).trans HR6z.out)
      obtain ⟨Wf, hWf⟩ : ∃ Wf, Wz.alloc (.cells #[.int .i64 2] 3) = Wf := ⟨_, rfl⟩
      rw [hWf] at n0 n1 n3 n6 ⊢
      clear hWf HBV HK1 HK2 HR6z r0 r1 hbz c12
      have r0 := Boxed.cell (t := 4) n6.out
      have r1 := Boxed.frozen (t := 4) n6.out
      go_wp2_with fail
      have hd2 : w9.heap.size ≤ D2 := hD2
      have hs9 := HS9.out
      have hd1 : w7.heap.size ≤ D := hD
      have hs7 := HS7.out
      have k2 : (Wf.setCell ⟨B0 + 1, 0, none⟩ (.bool true)).heap[D2]? = some (.deferred (some [])) := (Below.heap_setCell Wf ⟨B0 + 1, 0, none⟩ (.bool true) D2 (by simp only; omega)).trans n3.out
      have k1 : (Wf.setCell ⟨B0 + 1, 0, none⟩ (.bool true)).heap[D]? = some (.deferred (some [])) := (Below.heap_setCell Wf ⟨B0 + 1, 0, none⟩ (.bool true) D (by simp only; omega)).trans n1.out
      have hrT := Boxed.set (t := 4) (.bool true) n6.out
      have hbF : Below w.heap.size w (Wf.setCell ⟨B0 + 1, 0, none⟩ (.bool true)) := (HBW.out.trans (n0.out.mono (by omega))).setCell (p := ⟨B0 + 1, 0, none⟩) (by simp only; omega) _
      obtain ⟨WF, hWF⟩ : ∃ WF, Wf.setCell ⟨B0 + 1, 0, none⟩ (.bool true) = WF := ⟨_, rfl⟩
      rw [hWF] at k1 k2 hrT hbF ⊢
      have k1' : (WF.putObj D2 (.deferred none)).heap[D]? = some (.deferred (some [])) := (World.putObj_heap_other (by omega)).trans k1
      refine ⟨by simp, .inl ⟨_, _, rfl, run_takeDeferred k2, ?_⟩⟩
      refine ⟨by simp, .inl ⟨_, _, rfl, run_takeDeferred k1', ?_⟩⟩
      have hrF : Boxed ((WF.putObj D2 (.deferred none)).putObj D (.deferred none)) (B0 + 1) 4 (.bool true) := (World.putObj_heap_other (by omega)).trans ((World.putObj_heap_other (by omega)).trans hrT)
      exact ⟨_, res_one rfl _ _ (B0 + 1) rfl (fun _ => by kernel_rfl) hrF.cell, rfl, (hbF.trans (belowK_b (w := w) (Nat.le_refl _) WF D2 _ _ (by omega) k2 rfl rfl)).trans (belowK_b (w := w) (Nat.le_refl _) (WF.putObj D2 (.deferred none)) D _ _ (by omega) k1' rfl rfl)⟩
end Go.Proofs.Ytmkojmjjlcfohaa.Rg
