/- The walks of the calls on what no call made (caravel/caravellaw23.ConnidNobody); no condition. -/
import Derived.Test.YtiadfikhfimcoaaChecked
import Derived.Test.YtiadfikhfimcoaaMin
import Derived.Laws.Tables
import Derived.Deep.WholeRow
import Derived.Laws.Rows
import Derived.Handy
import Derived.WalkMore
set_option linter.unusedVariables false
set_option linter.unusedSimpArgs false
namespace Go.Proofs.Ytiadfikhfimcoaa.CoT
open Go.RowKit

/-- No call made it: all fields zero. -/
structure Zero (w : World) (g : Nat) : Prop where
  c0 : w.cell? ⟨g, 0, none⟩ = some (.int .i64 0)
  c1 : w.cell? ⟨g, 1, none⟩ = some (.map none)
  c2 : w.cell? ⟨g, 2, none⟩ = some (.map none)
  c3 : w.cell? ⟨g, 3, none⟩ = some (.int .i64 0)
  c4 : w.cell? ⟨g, 4, none⟩ = some (.int .i64 0)
theorem Zero.below {w w' : World} {g : Nat} (h : Zero w g) (hb : Below w.heap.size w w') : Zero w' g :=
  ⟨Bl.cell hb h.c0, Bl.cell hb h.c1, Bl.cell hb h.c2, Bl.cell hb h.c3, Bl.cell hb h.c4⟩
def Nob (w : World) (p : Value) : Prop := p = .pointer none ∨ ∃ g, p = .pointer (some ⟨g, 0, none⟩) ∧ Zero w g
theorem Nob.below {w w' : World} {p : Value} (h : Nob w p) (hb : Below w.heap.size w w') : Nob w' p := by
  rcases h with rfl | ⟨g, rfl, h⟩
  · exact .inl rfl
  · exact .inr ⟨g, rfl, h.below hb⟩
set_option maxRecDepth 100000 in
set_option maxHeartbeats 2000000 in
theorem none_any (w : World) (p : Value) (h : Nob w p) : Calls Try.prog 58 #[p] w fun e w' => e = .returned (.bool true) ∧ w = w' := by
  rcases h with rfl | ⟨g, rfl, h⟩
  · have heq : ∀ W : World, (binOp .eql 99 (.map none) (.map none)).run Try.prog W = .ok (.bool true) W := fun _ => by kernel_rfl
    go_enter Try.func58, Try.ntmps58
    go_wp2
    all_goals
      go_ret
      exact ⟨rfl, rfl⟩
  · obtain ⟨c0, c1, c2, c3, c4⟩ := h
    have heq : ∀ W : World, (binOp .eql 99 (.map none) (.map none)).run Try.prog W = .ok (.bool true) W := fun _ => by kernel_rfl
    go_enter Try.func58, Try.ntmps58
    go_wp2
    all_goals
      go_ret
      exact ⟨rfl, rfl⟩

theorem res_ct {P : Program} {fn : Func} {p u : Tmp} {ty : TypeId} (h : fn.results = #[.cell p ty, .tmp u]) (tmps : Array Value) (w : World) (g : Nat) (t : TypeId) (cs : Array Value) (fr : Nat × Nat) (d : TypeDesc)
    (hp : tmps.getD p undef = .pointer (some ⟨g, 0, none⟩)) (hg : w.heap[g]? = some (.cells cs t fr))
    (hu : P.underlying ty = some d) (hd : (match d with | .struct _ | .array _ _ => true | _ => false) = true) (hi : (P.info? ty).map (·.size) = some cs.size) :
    (results fn tmps).run P w = .ok (.tuple #[.agg cs, tmps.getD u undef]) w := by
  have hp' : tmps[p]?.getD undef = .pointer (some ⟨g, 0, none⟩) := by simpa using hp
  simp [results, h, hp', asAddr, run_loadVar_row w g t ty cs fr d hg hu hd hi]

theorem one_size : (Try.prog.info? 83).map (·.size) = some 19 := by kernel_rfl
theorem gate_st {P : Program} {ops : Array Oper} {rest : List Oper} {o : Oper} {a : Act} {w : World} {Q : Exit → Act → World → Prop} {t : TypeId} {p v : Operand} (_ho : o.op = .store t p v) (h : wpList P ops Q (o :: rest) a w) : wpList P ops Q (o :: rest) a w := h

set_option maxRecDepth 100000 in
set_option maxHeartbeats 1000000 in
theorem take_any (w : World) (p : Value) (n : Int) (aa : Option Addr) (an ac : Nat) (m0 m1 m2 m3 m4 m5 m6 m7 m8 m9 m10 m11 m12 m13 m14 m15 : Int) (b : Bool) (r : Int) (h : Nob w p) :
    Calls Try.prog 30 #[p, .agg #[.int .i64 n, .slice aa an ac, .int .u8 m0, .int .u8 m1, .int .u8 m2, .int .u8 m3, .int .u8 m4, .int .u8 m5, .int .u8 m6, .int .u8 m7, .int .u8 m8, .int .u8 m9, .int .u8 m10, .int .u8 m11, .int .u8 m12, .int .u8 m13, .int .u8 m14, .int .u8 m15, .bool b], .int .i64 r] w fun e w' => e = .returned (.tuple #[.slice none 0 0, .iface 24 (.int .i64 1)]) ∧ Below w.heap.size w w' := by
  rcases h with rfl | ⟨g, rfl, h⟩
  · have H : Hd (Nob w (.pointer none)) := ⟨.inl rfl⟩
    go_enter Try.func30, Try.ntmps30
    go_wp2_with (first
    | (go_at_call 58; refine (none_any _ _ (H.out.below (by repeat (first | exact Below.refl _ _ | apply Bl.alloc | apply Bl.drewN | apply Bl.drew)))).mono ?_; rintro e w' ⟨rfl, rfl⟩))
    all_goals
      go_returns
      exact ⟨rfl, by repeat (first | exact Below.refl _ _ | apply Bl.alloc | apply Bl.drewN | apply Bl.drew)⟩
  · have H : Hd (Nob w (.pointer (some ⟨g, 0, none⟩))) := ⟨.inr ⟨g, rfl, h⟩⟩
    clear h
    go_enter Try.func30, Try.ntmps30
    go_wp2_with (first
    | (go_at_call 58; refine (none_any _ _ (H.out.below (by repeat (first | exact Below.refl _ _ | apply Bl.alloc | apply Bl.drewN | apply Bl.drew)))).mono ?_; rintro e w' ⟨rfl, rfl⟩))
    all_goals
      go_returns
      exact ⟨rfl, by repeat (first | exact Below.refl _ _ | apply Bl.alloc | apply Bl.drewN | apply Bl.drew)⟩
set_option maxRecDepth 100000 in
set_option maxHeartbeats 1000000 in
theorem now_any (w : World) (p : Value)  (h : Nob w p) :
    Calls Try.prog 32 #[p] w fun e w' => e = .returned (.tuple #[.agg #[.int .i64 0, .slice none 0 0, .int .u8 0, .int .u8 0, .int .u8 0, .int .u8 0, .int .u8 0, .int .u8 0, .int .u8 0, .int .u8 0, .int .u8 0, .int .u8 0, .int .u8 0, .int .u8 0, .int .u8 0, .int .u8 0, .int .u8 0, .int .u8 0, .bool false], .bool false]) ∧ Below w.heap.size w w' := by
  rcases h with rfl | ⟨g, rfl, h⟩
  · have H : Hd (Nob w (.pointer none)) := ⟨.inl rfl⟩
    go_enter Try.func32, Try.ntmps32
    go_wp2_with (first
    | (go_at_call 58; refine (none_any _ _ (H.out.below (by repeat (first | exact Below.refl _ _ | apply Bl.alloc | apply Bl.drewN | apply Bl.drew)))).mono ?_; rintro e w' ⟨rfl, rfl⟩)
    | ((with_reducible refine gate_st (t := 83) (p := .tmp 2) (v := .tmp 7) rfl ?_); refine wpList_store_row rfl 83 (.tmp 2) (.tmp 7) rfl w.heap.size #[.int .i64 0, .slice none 0 0, .int .u8 0, .int .u8 0, .int .u8 0, .int .u8 0, .int .u8 0, .int .u8 0, .int .u8 0, .int .u8 0, .int .u8 0, .int .u8 0, .int .u8 0, .int .u8 0, .int .u8 0, .int .u8 0, .int .u8 0, .int .u8 0, .bool false] rfl rfl 83 #[.int .i64 0, .slice none 0 0, .int .u8 0, .int .u8 0, .int .u8 0, .int .u8 0, .int .u8 0, .int .u8 0, .int .u8 0, .int .u8 0, .int .u8 0, .int .u8 0, .int .u8 0, .int .u8 0, .int .u8 0, .int .u8 0, .int .u8 0, .int .u8 0, .bool false] (heap_alloc_new _ _) one_size rfl (by kernel_rfl) ?_; rw [World.setRow_alloc_new]))
    all_goals
      refine bodyPost_ret (res_ct rfl _ _ w.heap.size 83 _ (0, 0) _ rfl (heap_alloc_new w _) Try.underlying83 rfl (by kernel_rfl)) rfl ?_
      exact ⟨rfl, by repeat (first | exact Below.refl _ _ | apply Bl.alloc | apply Bl.drewN | apply Bl.drew)⟩
  · have H : Hd (Nob w (.pointer (some ⟨g, 0, none⟩))) := ⟨.inr ⟨g, rfl, h⟩⟩
    clear h
    go_enter Try.func32, Try.ntmps32
    go_wp2_with (first
    | (go_at_call 58; refine (none_any _ _ (H.out.below (by repeat (first | exact Below.refl _ _ | apply Bl.alloc | apply Bl.drewN | apply Bl.drew)))).mono ?_; rintro e w' ⟨rfl, rfl⟩)
    | ((with_reducible refine gate_st (t := 83) (p := .tmp 2) (v := .tmp 7) rfl ?_); refine wpList_store_row rfl 83 (.tmp 2) (.tmp 7) rfl w.heap.size #[.int .i64 0, .slice none 0 0, .int .u8 0, .int .u8 0, .int .u8 0, .int .u8 0, .int .u8 0, .int .u8 0, .int .u8 0, .int .u8 0, .int .u8 0, .int .u8 0, .int .u8 0, .int .u8 0, .int .u8 0, .int .u8 0, .int .u8 0, .int .u8 0, .bool false] rfl rfl 83 #[.int .i64 0, .slice none 0 0, .int .u8 0, .int .u8 0, .int .u8 0, .int .u8 0, .int .u8 0, .int .u8 0, .int .u8 0, .int .u8 0, .int .u8 0, .int .u8 0, .int .u8 0, .int .u8 0, .int .u8 0, .int .u8 0, .int .u8 0, .int .u8 0, .bool false] (heap_alloc_new _ _) one_size rfl (by kernel_rfl) ?_; rw [World.setRow_alloc_new]))
    all_goals
      refine bodyPost_ret (res_ct rfl _ _ w.heap.size 83 _ (0, 0) _ rfl (heap_alloc_new w _) Try.underlying83 rfl (by kernel_rfl)) rfl ?_
      exact ⟨rfl, by repeat (first | exact Below.refl _ _ | apply Bl.alloc | apply Bl.drewN | apply Bl.drew)⟩
set_option maxRecDepth 100000 in
set_option maxHeartbeats 1000000 in
theorem switch_any (w : World) (p : Value)  (h : Nob w p) :
    Calls Try.prog 31 #[p] w fun e w' => e = .returned (.tuple #[.int .i64 0, .int .i64 1]) ∧ w = w' := by
  have H := Hd.mk h
  clear h
  go_enter Try.func31, Try.ntmps31
  go_wp2_with (first
    | (go_at_call 58; refine (none_any _ _ (H.out.below (by repeat (first | exact Below.refl _ _ | apply Bl.alloc | apply Bl.drewN | apply Bl.drew)))).mono ?_; rintro e w' ⟨rfl, rfl⟩))
  all_goals
    go_ret2
    exact ⟨rfl, rfl⟩
set_option maxRecDepth 100000 in
set_option maxHeartbeats 1000000 in
theorem resets_any (w : World) (p : Value) (m0 m1 m2 m3 m4 m5 m6 m7 m8 m9 m10 m11 m12 m13 m14 m15 : Int) (h : Nob w p) :
    Calls Try.prog 36 #[p, .agg #[.int .u8 m0, .int .u8 m1, .int .u8 m2, .int .u8 m3, .int .u8 m4, .int .u8 m5, .int .u8 m6, .int .u8 m7, .int .u8 m8, .int .u8 m9, .int .u8 m10, .int .u8 m11, .int .u8 m12, .int .u8 m13, .int .u8 m14, .int .u8 m15]] w fun e w' => e = .returned (.bool false) ∧ Below w.heap.size w w' := by
  rcases h with rfl | ⟨g, rfl, h⟩
  · have H : Hd (Nob w (.pointer none)) := ⟨.inl rfl⟩
    go_enter Try.func36, Try.ntmps36
    go_wp2_with (first
    | (go_at_call 58; refine (none_any _ _ (H.out.below (by repeat (first | exact Below.refl _ _ | apply Bl.alloc | apply Bl.drewN | apply Bl.drew)))).mono ?_; rintro e w' ⟨rfl, rfl⟩))
    all_goals
      go_returns
      exact ⟨rfl, by repeat (first | exact Below.refl _ _ | apply Bl.alloc | apply Bl.drewN | apply Bl.drew)⟩
  · have H : Hd (Nob w (.pointer (some ⟨g, 0, none⟩))) := ⟨.inr ⟨g, rfl, h⟩⟩
    clear h
    go_enter Try.func36, Try.ntmps36
    go_wp2_with (first
    | (go_at_call 58; refine (none_any _ _ (H.out.below (by repeat (first | exact Below.refl _ _ | apply Bl.alloc | apply Bl.drewN | apply Bl.drew)))).mono ?_; rintro e w' ⟨rfl, rfl⟩))
    all_goals
      go_returns
      exact ⟨rfl, by repeat (first | exact Below.refl _ _ | apply Bl.alloc | apply Bl.drewN | apply Bl.drew)⟩
set_option maxRecDepth 100000 in
set_option maxHeartbeats 1000000 in
theorem mark_any (w : World) (p : Value) (m0 m1 m2 m3 m4 m5 m6 m7 m8 m9 m10 m11 m12 m13 m14 m15 : Int) (h : Nob w p) :
    Calls Try.prog 37 #[p, .agg #[.int .u8 m0, .int .u8 m1, .int .u8 m2, .int .u8 m3, .int .u8 m4, .int .u8 m5, .int .u8 m6, .int .u8 m7, .int .u8 m8, .int .u8 m9, .int .u8 m10, .int .u8 m11, .int .u8 m12, .int .u8 m13, .int .u8 m14, .int .u8 m15]] w fun e w' => e = .returned (.int .i64 1) ∧ Below w.heap.size w w' := by
  rcases h with rfl | ⟨g, rfl, h⟩
  · have H : Hd (Nob w (.pointer none)) := ⟨.inl rfl⟩
    go_enter Try.func37, Try.ntmps37
    go_wp2_with (first
    | (go_at_call 58; refine (none_any _ _ (H.out.below (by repeat (first | exact Below.refl _ _ | apply Bl.alloc | apply Bl.drewN | apply Bl.drew)))).mono ?_; rintro e w' ⟨rfl, rfl⟩))
    all_goals
      go_returns
      exact ⟨rfl, by repeat (first | exact Below.refl _ _ | apply Bl.alloc | apply Bl.drewN | apply Bl.drew)⟩
  · have H : Hd (Nob w (.pointer (some ⟨g, 0, none⟩))) := ⟨.inr ⟨g, rfl, h⟩⟩
    clear h
    go_enter Try.func37, Try.ntmps37
    go_wp2_with (first
    | (go_at_call 58; refine (none_any _ _ (H.out.below (by repeat (first | exact Below.refl _ _ | apply Bl.alloc | apply Bl.drewN | apply Bl.drew)))).mono ?_; rintro e w' ⟨rfl, rfl⟩))
    all_goals
      go_returns
      exact ⟨rfl, by repeat (first | exact Below.refl _ _ | apply Bl.alloc | apply Bl.drewN | apply Bl.drew)⟩
/-- What the law's loop rests on. -/
structure Base (w : World) (s z r : Nat) (k : Int) (q : Int) (t : Int) (aa : Option Addr) (an : Nat) (ac : Nat) (ba : Option Addr) (bn : Nat) (bc : Nat) (m0 : Int) (m1 : Int) (m2 : Int) (m3 : Int) (m4 : Int) (m5 : Int) (m6 : Int) (m7 : Int) (m8 : Int) (m9 : Int) (m10 : Int) (m11 : Int) (m12 : Int) (m13 : Int) (m14 : Int) (m15 : Int) : Prop where
  a0 : w.cell? ⟨s, 0, none⟩ = some (.int .i64 k)
  a1 : w.cell? ⟨s, 1, none⟩ = some (.int .i64 q)
  a2 : w.cell? ⟨s, 2, none⟩ = some (.int .i64 t)
  a3 : w.cell? ⟨s, 3, none⟩ = some (.slice aa an ac)
  a4 : w.cell? ⟨s, 4, none⟩ = some (.slice ba bn bc)
  a5 : w.cell? ⟨s, 5, none⟩ = some (.int .u8 m0)
  a6 : w.cell? ⟨s, 6, none⟩ = some (.int .u8 m1)
  a7 : w.cell? ⟨s, 7, none⟩ = some (.int .u8 m2)
  a8 : w.cell? ⟨s, 8, none⟩ = some (.int .u8 m3)
  a9 : w.cell? ⟨s, 9, none⟩ = some (.int .u8 m4)
  a10 : w.cell? ⟨s, 10, none⟩ = some (.int .u8 m5)
  a11 : w.cell? ⟨s, 11, none⟩ = some (.int .u8 m6)
  a12 : w.cell? ⟨s, 12, none⟩ = some (.int .u8 m7)
  a13 : w.cell? ⟨s, 13, none⟩ = some (.int .u8 m8)
  a14 : w.cell? ⟨s, 14, none⟩ = some (.int .u8 m9)
  a15 : w.cell? ⟨s, 15, none⟩ = some (.int .u8 m10)
  a16 : w.cell? ⟨s, 16, none⟩ = some (.int .u8 m11)
  a17 : w.cell? ⟨s, 17, none⟩ = some (.int .u8 m12)
  a18 : w.cell? ⟨s, 18, none⟩ = some (.int .u8 m13)
  a19 : w.cell? ⟨s, 19, none⟩ = some (.int .u8 m14)
  a20 : w.cell? ⟨s, 20, none⟩ = some (.int .u8 m15)
  z0 : Zero w z
  r0 : w.cell? ⟨r, 0, none⟩ = some (.pointer none)
  r1 : w.cell? ⟨r, 1, none⟩ = some (.pointer (some ⟨z, 0, none⟩))
  ls : s < w.heap.size
  lz : z < w.heap.size
  lr : r < w.heap.size
theorem Base.below {w w' : World} {s z r : Nat} {k : Int} {q : Int} {t : Int} {aa : Option Addr} {an : Nat} {ac : Nat} {ba : Option Addr} {bn : Nat} {bc : Nat} {m0 : Int} {m1 : Int} {m2 : Int} {m3 : Int} {m4 : Int} {m5 : Int} {m6 : Int} {m7 : Int} {m8 : Int} {m9 : Int} {m10 : Int} {m11 : Int} {m12 : Int} {m13 : Int} {m14 : Int} {m15 : Int} (h : Base w s z r k q t aa an ac ba bn bc m0 m1 m2 m3 m4 m5 m6 m7 m8 m9 m10 m11 m12 m13 m14 m15) (hb : Below w.heap.size w w') : Base w' s z r k q t aa an ac ba bn bc m0 m1 m2 m3 m4 m5 m6 m7 m8 m9 m10 m11 m12 m13 m14 m15 :=
  ⟨Bl.cell hb h.a0, Bl.cell hb h.a1, Bl.cell hb h.a2, Bl.cell hb h.a3, Bl.cell hb h.a4, Bl.cell hb h.a5, Bl.cell hb h.a6, Bl.cell hb h.a7, Bl.cell hb h.a8, Bl.cell hb h.a9, Bl.cell hb h.a10, Bl.cell hb h.a11, Bl.cell hb h.a12, Bl.cell hb h.a13, Bl.cell hb h.a14, Bl.cell hb h.a15, Bl.cell hb h.a16, Bl.cell hb h.a17, Bl.cell hb h.a18, Bl.cell hb h.a19, Bl.cell hb h.a20, h.z0.below hb, Bl.cell hb h.r0, Bl.cell hb h.r1, Nat.lt_of_lt_of_le h.ls hb.size, Nat.lt_of_lt_of_le h.lz hb.size, Nat.lt_of_lt_of_le h.lr hb.size⟩
def Rel (w : World) (k : Int) (q : Int) (t : Int) (aa : Option Addr) (an : Nat) (ac : Nat) (ba : Option Addr) (bn : Nat) (bc : Nat) (m0 : Int) (m1 : Int) (m2 : Int) (m3 : Int) (m4 : Int) (m5 : Int) (m6 : Int) (m7 : Int) (m8 : Int) (m9 : Int) (m10 : Int) (m11 : Int) (m12 : Int) (m13 : Int) (m14 : Int) (m15 : Int) (i : Value) (W : World) : Prop :=
  ∃ j : Nat, j ≤ 2 ∧ i = .int .i64 j ∧ Below w.heap.size w W ∧ Base W w.heap.size (w.heap.size + 1) (w.heap.size + 2) k q t aa an ac ba bn bc m0 m1 m2 m3 m4 m5 m6 m7 m8 m9 m10 m11 m12 m13 m14 m15
end Go.Proofs.Ytiadfikhfimcoaa.CoT
