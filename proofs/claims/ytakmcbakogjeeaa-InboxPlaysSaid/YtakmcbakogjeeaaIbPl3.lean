/- InboxPlays: between the rounds, and what comes in; no condition. -/
import Derived.Test.YtakmcbakogjeeaaIbPl2
import Derived.Maps.AppendAt
import Derived.Deep.Upon
set_option linter.unusedVariables false
set_option linter.unusedSimpArgs false
namespace Go.Proofs.Ytakmcbakogjeeaa.Ib
open Go Go.RowKit Go.Maps Go.Proofs.Ytakmcbakogjeeaa.Rm Go.Proofs.Ytakmcbakogjeeaa.Rw
open Go.Proofs.YtakmcbakogjeeaaW.PrintWords Go.Proofs.YtakmcbakogjeeaaW.PrintLast Go.Proofs.YtakmcbakogjeeaaW.PrintMore
variable {w W W' : World} {b g m n r ab : Nat} {h h2 h0 : Hd} {P P0 : List Pc} {kv : KV} {L : List By} {D : Nat → Prop} {cs : Array Value}
/-! What is told: the world grows at most. -/
theorem t_final (x : PlS w g m r ab cs D h P h2 L W) : Calls Try.prog 17 #[.pointer (some ⟨g, 0, none⟩)] W fun e w' => e = .returned (.tuple #[.int .i64 (if h.known then h.final else 0), .bool h.known]) ∧ W = w' := by
  obtain ⟨kv, h1, h3⟩ := x.box
  exact final_s h1
theorem t_ready (x : PlS w g m r ab cs D h P h2 L W) (i : PlIn h P) : Calls Try.prog 24 #[.pointer (some ⟨g, 0, none⟩)] W fun e w' => e = .returned (.int .i64 (readyB h.place (flat P))) ∧ Below W.heap.size W w' := by
  obtain ⟨kv, h1, h3⟩ := x.box
  obtain ⟨q1, q2, q3, q4, q5, q6⟩ := i.few
  refine (ready_s h1 h3 i.ok i.p0 i.p1 q5).mono ?_
  rintro e w' ⟨rfl, rfl⟩
  exact ⟨by rw [ready_is i.ok], Below.refl _ _⟩
theorem t_rready (x : PlS w g m r ab cs D h0 P0 h (flat P) W) (i : PlIn h P) : Calls Try.prog 31 #[.pointer (some ⟨r, 0, none⟩)] W fun e w' => e = .returned (.int .i64 (readyB h.place (flat P))) ∧ Below W.heap.size W w' := by
  obtain ⟨A', c', h1⟩ := x.rb
  obtain ⟨q1, q2, q3, q4, q5, q6⟩ := i.few
  refine (rready_s h1 i.p0 i.p1 q3).mono ?_
  rintro e w' ⟨rfl, nd, rfl⟩
  exact ⟨rfl, bl_drewN nd⟩
theorem t_limit (x : PlS w g m r ab cs D h P h2 L W) : Calls Try.prog 22 #[.pointer (some ⟨g, 0, none⟩)] W fun e w' => e = .returned (.int .i64 h.limit) ∧ Below W.heap.size W w' := by
  obtain ⟨kv, h1, h3⟩ := x.box
  refine (limit_s h1).mono ?_
  rintro e w' ⟨rfl, rfl⟩
  exact ⟨rfl, Below.refl _ _⟩
theorem t_reach (x : PlS w g m r ab cs D h P h2 L W) : Calls Try.prog 18 #[.pointer (some ⟨g, 0, none⟩)] W fun e w' => e = .returned (.int .i64 h.reach) ∧ Below W.heap.size W w' := by
  obtain ⟨kv, h1, h3⟩ := x.box
  refine (reach_s h1).mono ?_
  rintro e w' ⟨rfl, rfl⟩
  exact ⟨rfl, Below.refl _ _⟩
theorem t_held (x : PlS w g m r ab cs D h P h2 L W) (i : PlIn h P) : Calls Try.prog 21 #[.pointer (some ⟨g, 0, none⟩)] W fun e w' => e = .returned (.int .i64 ((flat P).length : Nat)) ∧ Below W.heap.size W w' := by
  obtain ⟨kv, h1, h3⟩ := x.box
  obtain ⟨q1, q2, q3, q4, q5, q6⟩ := i.few
  refine (held_s h1 h3 (by omega)).mono ?_
  rintro e w' ⟨rfl, hb⟩
  exact ⟨by rw [held_is], hb⟩
theorem new_bad (room : Int) (W : World) (hr : room < 0 ∨ 1048576 < room) : Calls Try.prog 15 #[.int .i64 room] W fun e w' => e = .returned (.tuple #[.pointer none, .int .i64 2]) ∧ W = w' := by
  by_cases h0 : room < 0
  · go_enter Try.func15, Try.ntmps15
    go_wp2
    go_ret2
    exact ⟨rfl, rfl⟩
  · have h1 : 1048576 < room := by omega
    go_enter Try.func15, Try.ntmps15
    go_wp2
    go_ret2
    exact ⟨rfl, rfl⟩
theorem names_s (W : World) : Calls Try.prog 26 #[] W fun e w' => e = .returned (.bool true) ∧ W = w' := by
  go_enter Try.func26, Try.ntmps26
  go_wp2
  go_ret
  exact ⟨rfl, rfl⟩
/-- Between the rounds. -/
structure PlO (w : World) (g m r : Nat) (h : Hd) (P : List Pc) (W : World) : Prop where
  bel : Below w.heap.size w W
  box : ∃ kv, BoxAt W w.heap.size g m kv.length h kv ∧ Pcs W (fun _ => True) kv P
  rb : ∃ A c, RBox W w.heap.size r h A c (flat P)
theorem PlS.out (x : PlS w g m r ab cs D h P h (flat P) W) : PlO w g m r h P W := by
  obtain ⟨kv, h1, h3⟩ := x.box
  exact ⟨x.bel, ⟨kv, h1, h3.mono (fun _ _ _ => trivial)⟩, x.rb⟩
theorem PlO.act (x : PlO w g m r h P W) (cs : Array Value) : PlS w g m r W.heap.size cs (fun _ => True) h P h (flat P) (W.alloc (.cells cs 41)) := by
  obtain ⟨kv, h1, h3⟩ := x.box
  obtain ⟨A, c, h4⟩ := x.rb
  have hb := below_alloc (Below.refl _ W) (.cells cs 41)
  exact ⟨x.bel.trans (hb.mono x.bel.size), ⟨kv, h1.below hb, h3.below hb⟩, ⟨A, c, h4.below hb⟩, heap_alloc_new W _⟩
/-- An act that came in. -/
abbrev ActI := Int × Int × List Int × Bool × Int
abbrev actK : Kd ActI := Kd.pair (Kd.int .i64) (Kd.pair (Kd.int .i64) (Kd.pair (Kd.slice 5 (Kd.int .u8)) (Kd.pair Kd.bool (Kd.int .i64))))
theorem came_act {w : World} {A : Option Addr} {xs : List ActI} {k : Nat} {x : ActI} (h : Kd.C actK w A xs.length xs) (hk : xs[k]? = some x) :
    ∃ ad A' c', A = some ad ∧ w.cell? (ad.add (k * 5)) = some (.int .i64 x.1) ∧ w.cell? (ad.add (k * 5 + 1)) = some (.int .i64 x.2.1) ∧ w.cell? (ad.add (k * 5 + 2)) = some (.slice A' x.2.2.1.length c') ∧ w.cell? (ad.add (k * 5 + 3)) = some (.bool x.2.2.2.1) ∧ w.cell? (ad.add (k * 5 + 4)) = some (.int .i64 x.2.2.2.2) ∧ x.2.2.1.length ≤ c' ∧ Kd.C (Kd.int .u8) w A' x.2.2.1.length x.2.2.1 := by
  have hlt := (List.getElem?_eq_some_iff.1 hk).1
  obtain ⟨ad, hA, hq⟩ := h.2.2 (by omega)
  obtain ⟨cs, _, ⟨c0, d0, rfl, h0, ⟨c1, d1, rfl, h1, ⟨c2, d2, rfl, ⟨A', c', h2, hl, hC⟩, ⟨c3, c4, rfl, h3, h4⟩⟩⟩⟩, hcell⟩ := hq k x hk
  have e0 : c0 = [.int .i64 x.1] := h0
  have e1 : c1 = [.int .i64 x.2.1] := h1
  have e3 : c3 = [.bool x.2.2.2.1] := h3
  have e4 : c4 = [.int .i64 x.2.2.2.2] := h4
  subst e0; subst e1; subst h2; subst e3; subst e4
  exact ⟨ad, A', c', hA, hcell 0 _ rfl, hcell 1 _ rfl, hcell 2 _ rfl, hcell 3 _ rfl, hcell 4 _ rfl, hl, hC⟩
theorem came_bytes {w : World} {A : Option Addr} {xs : List Int} (h : Kd.C (Kd.int .u8) w A xs.length xs) (h0 : 0 < xs.length) : ∃ ad, A = some ad ∧ ad.block < w.heap.size ∧ ∀ i u, xs[i]? = some u → w.cell? (ad.add i) = some (.int .u8 u) := by
  obtain ⟨ad, hA, hq⟩ := h.2.2 h0
  have hc : ∀ i u, xs[i]? = some u → w.cell? (ad.add i) = some (.int .u8 u) := fun i u hu => by
    obtain ⟨c, _, hr, hcell⟩ := hq i u hu
    have e : c = [.int .u8 u] := hr
    subst e
    have h := hcell 0 _ rfl
    rw [show (Kd.int .u8).sz = 1 from rfl, Nat.mul_one, Nat.add_zero] at h
    exact h
  refine ⟨ad, hA, ?_, hc⟩
  obtain ⟨u, hu⟩ : ∃ u, xs[0]? = some u := ⟨_, List.getElem?_eq_getElem h0⟩
  have := World.block_lt_of_cell? w _ (hc 0 u hu)
  rwa [add_blk] at this
theorem PlS.ac {a0 a1 a2 a3 a4 : Value} (x : PlS w g m r ab #[a0, a1, a2, a3, a4] D h P h2 L W) : W.cell? ⟨ab, 0, none⟩ = some a0 ∧ W.cell? ⟨ab, 1, none⟩ = some a1 ∧ W.cell? ⟨ab, 2, none⟩ = some a2 ∧ W.cell? ⟨ab, 3, none⟩ = some a3 ∧ W.cell? ⟨ab, 4, none⟩ = some a4 := by
  refine ⟨?_, ?_, ?_, ?_, ?_⟩ <;> (rw [cell_of_row W ab _ _ _ _ x.loc]; rfl)
/-- An append of any number of bytes, out of any source. -/
theorem wpList_app_u8 {W : World} {ops : Array Oper} {rest : List Oper} {o : Oper} {a : Act} {Q : Exit → Act → World → Prop} (hgd : o.guard = none) (s x : Operand)
    (ho : o.op = .call { callee := .builtin .append, args := #[s, x], argTypes := #[22, 22] }) (base : Nat)
    (v : Value) (n : Nat) (xs : List Value) (hs : a.eval s = v) (hown : W.ownsRow base 5 1 v n xs) (sA : Option Addr) (k sc : Nat) (news : List Value) (hx : a.eval x = .slice sA k sc) (hl : news.length = k)
    (hc : 0 < k → ∃ a, sA = some a ∧ ∀ j u, news[j]? = some u → W.cell? (a.add j) = some u) (h1 : ∀ u ∈ news, u.oneCell' = true) (hb : n + k ≤ 140737488355328) (hbase : base ≤ W.heap.size)
    (h : ∀ v' w', w'.ownsRow base 5 1 v' (n + k) (xs ++ news) → W.grownBy w' v.ownBlock → (v'.ownBlock = v.ownBlock ∨ v'.ownBlock = some W.heap.size) → wpList Try.prog ops Q rest (a.put o.dst v') w') :
    wpList Try.prog ops Q (o :: rest) a W := by
  obtain ⟨i0, hi, hz0, hz1, hz2⟩ := info_parts info8
  by_cases hm : 0 < k
  · obtain ⟨ad, rfl, hcell⟩ := hc hm
    exact wpList_append_own_at W hgd s x 22 ho base 5 i0 _ 1 1 Try.underlying22 hi hz0 hz1 hz2 rfl (by decide) v n xs hs hown ad k sc news hx (by omega) hcell h1 (by unfold maxLen; omega) (by omega) hbase (fun v' w' a1 a2 _ a4 => h v' w' a1 a2 a4)
  · have hm0 : k = 0 := by omega
    subst hm0
    have hn0 : news = [] := List.eq_nil_of_length_eq_zero hl
    subst hn0
    obtain ⟨A0, c0, rfl, hc0⟩ := own_form hown
    have hr : (Builtin.append_ #[22, 22] o.type #[.slice A0 n c0, .slice sA 0 sc]).run Try.prog W = .ok (.slice A0 n c0) W := by
      refine run_append_nothing W 22 22 o.type _ i0 Try.underlying22 hi A0 n c0 hc0 (.slice sA 0 sc) ?_
      cases sA with
      | none => exact Src.ofNil W Try.underlying22 sc
      | some a => exact Src.ofSlice W Try.underlying22 a 0 sc [] (by simp) (fun j u hu => by simp at hu) (fun u hu => by cases hu)
    refine wpList_plain hgd fun K hK => ?_
    unfold Oper.wp execOp
    simp only [ho, resolve, invoke, builtin, Sem.run_bind, Sem.run_pure, Result.andThen_ok, List.map_toArray, List.map_cons, List.map_nil, hs, hx, hr]
    exact hK _ _ (h (.slice A0 n c0) W (by simpa using hown) (World.grownBy.refl _ _) (.inl rfl))
/-- Under way. -/
def PlRel (w : World) (g m r : Nat) (N : Nat) (iv : Value) (W : World) : Prop := ∃ (k : Nat) (h : Hd) (P : List Pc), k ≤ N ∧ iv = .int .i64 k ∧ PlO w g m r h P W ∧ PlIn h P
/-- Behind an act. -/
def PlCut (w : World) (g m r ab : Nat) (cs : Array Value) (W : World) : Prop := ∃ (h : Hd) (P : List Pc), PlS w g m r ab cs (fun _ => True) h P h (flat P) W ∧ PlIn h P
set_option maxRecDepth 100000 in
set_option maxHeartbeats 12800000 in
theorem play_bad (room : Int) (hr : room < 0 ∨ 1048576 < room) (A1 : Option Addr) (acts : List ActI) (c1 : Nat) (w : World) (hl1 : acts.length ≤ 140737488351232) :
    Calls Try.prog 6 #[.int .i64 room, .slice A1 acts.length c1] w fun e w' => e = .returned (.bool true) ∧ Below w.heap.size w w' := by
  have CN := Aside0.mk (new_bad room w hr)
  have CR := Aside0.mk (rnew_bad room w hr)
  clear hr
  go_enter Try.func6, Try.ntmps6
  go_wp2_with (first
    | (go_at_call 15; (with_reducible refine CN.out.mono ?_); rintro e w1 ⟨rfl, rfl⟩)
    | (go_at_call 25; (with_reducible refine CR.out.mono ?_); rintro e w1 ⟨rfl, rfl⟩)
    | (go_at_call 26; (with_reducible refine (names_s _).mono ?_); rintro e w1 ⟨rfl, rfl⟩))
  go_loopw [9] (fun i W => i = .int .i64 0 ∧ w = W) (fun _ _ => 0)
  case atStart => exact ⟨rfl, rfl⟩
  case round =>
    obtain ⟨rfl, rfl⟩ := hrel
    go_wp2_with fail
    all_goals (go_ret; exact ⟨rfl, Below.refl _ _⟩)
end Go.Proofs.Ytakmcbakogjeeaa.Ib
