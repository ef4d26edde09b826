/- ConnidNobody: the law's walk; no condition. -/
import Derived.Test.YtiadfikhfimcoaaConnidOwnN
import Derived.Test.YtiadfikhfimcoaaConnidTheirsN
import Derived.Test.YtiadfikhfimcoaaErrIs
import Derived.LoopN
import Derived.Deep.MidRow
import Derived.Laws.Tables
import Derived.Laws.Rows
import Derived.Deep.WholeRow
set_option linter.unusedVariables false
set_option linter.unusedSimpArgs false
namespace Go.Proofs.Ytiadfikhfimcoaa
open Go.RowKit
theorem mark_range {w : World} {s z r : Nat} {k q t : Int} {aa : Option Addr} {an ac : Nat} {ba : Option Addr} {bn bc : Nat} {m0 m1 m2 m3 m4 m5 m6 m7 m8 m9 m10 m11 m12 m13 m14 m15 : Int} (h : CoT.Base w s z r k q t aa an ac ba bn bc m0 m1 m2 m3 m4 m5 m6 m7 m8 m9 m10 m11 m12 m13 m14 m15) : w.rangeAt s 5 [.int .u8 m0, .int .u8 m1, .int .u8 m2, .int .u8 m3, .int .u8 m4, .int .u8 m5, .int .u8 m6, .int .u8 m7, .int .u8 m8, .int .u8 m9, .int .u8 m10, .int .u8 m11, .int .u8 m12, .int .u8 m13, .int .u8 m14, .int .u8 m15] := fun j v hv =>
  match j, hv with
  | 0, hv => by obtain rfl := Option.some.inj hv; exact h.a5
  | 1, hv => by obtain rfl := Option.some.inj hv; exact h.a6
  | 2, hv => by obtain rfl := Option.some.inj hv; exact h.a7
  | 3, hv => by obtain rfl := Option.some.inj hv; exact h.a8
  | 4, hv => by obtain rfl := Option.some.inj hv; exact h.a9
  | 5, hv => by obtain rfl := Option.some.inj hv; exact h.a10
  | 6, hv => by obtain rfl := Option.some.inj hv; exact h.a11
  | 7, hv => by obtain rfl := Option.some.inj hv; exact h.a12
  | 8, hv => by obtain rfl := Option.some.inj hv; exact h.a13
  | 9, hv => by obtain rfl := Option.some.inj hv; exact h.a14
  | 10, hv => by obtain rfl := Option.some.inj hv; exact h.a15
  | 11, hv => by obtain rfl := Option.some.inj hv; exact h.a16
  | 12, hv => by obtain rfl := Option.some.inj hv; exact h.a17
  | 13, hv => by obtain rfl := Option.some.inj hv; exact h.a18
  | 14, hv => by obtain rfl := Option.some.inj hv; exact h.a19
  | 15, hv => by obtain rfl := Option.some.inj hv; exact h.a20
  | j + 16, hv => by simp at hv
theorem mark_size : (Try.prog.info? 81).map (·.size) = some 16 := by kernel_rfl
theorem gate_ld {P : Program} {ops : Array Oper} {rest : List Oper} {o : Oper} {a : Act} {w : World} {Q : Exit → Act → World → Prop} {t : TypeId} {p : Operand} (_ho : o.op = .load t p) (h : wpList P ops Q (o :: rest) a w) : wpList P ops Q (o :: rest) a w := h
set_option maxRecDepth 100000 in
set_option maxHeartbeats 4000000 in
theorem connid_walk (k q t : Int) (aa : Option Addr) (an ac : Nat) (ba : Option Addr) (bn bc : Nat) (m0 m1 m2 m3 m4 m5 m6 m7 m8 m9 m10 m11 m12 m13 m14 m15 : Int) (w : World) :
    Calls Try.prog 7 #[.agg #[.int .i64 k, .int .i64 q, .int .i64 t, .slice aa an ac, .slice ba bn bc, .int .u8 m0, .int .u8 m1, .int .u8 m2, .int .u8 m3, .int .u8 m4, .int .u8 m5, .int .u8 m6, .int .u8 m7, .int .u8 m8, .int .u8 m9, .int .u8 m10, .int .u8 m11, .int .u8 m12, .int .u8 m13, .int .u8 m14, .int .u8 m15]] w fun e w' => e = .returned (.bool true) ∧ Below w.heap.size w w' := by
  have HZ : Hd (CoO.Zero (((w.alloc (.cells #[.int .i64 k, .int .i64 q, .int .i64 t, .slice aa an ac, .slice ba bn bc, .int .u8 m0, .int .u8 m1, .int .u8 m2, .int .u8 m3, .int .u8 m4, .int .u8 m5, .int .u8 m6, .int .u8 m7, .int .u8 m8, .int .u8 m9, .int .u8 m10, .int .u8 m11, .int .u8 m12, .int .u8 m13, .int .u8 m14, .int .u8 m15] 92)).alloc (.cells #[.int .i64 0, .map none, .map none, .int .i64 0] 96)).alloc (.cells #[.pointer none, .pointer (some ⟨w.heap.size + 1, 0, none⟩)] 65)) (w.heap.size + 1)) := ⟨by constructor <;> go_simp⟩
  go_enter Try.func7, Try.ntmps7
  go_wp2
  refine wp_loop_rounds 3 ?_
  rw [rounds_succ]
  go_wp2_with (first
      | (go_at_call 28; refine (CoO.issue_any _ _ _ _ _ (.inl rfl)).mono ?_; rintro e w' ⟨rfl, rfl⟩)
      | (go_at_call 34; refine (CoO.retired_any _ _ _ _ _ _ (.inl rfl)).mono ?_; rintro e w' ⟨rfl, rfl⟩)
      | (go_at_call 33; refine (CoO.has_any _ _ _ _ _ (.inl rfl)).mono ?_; rintro e w' ⟨rfl, rfl⟩)
      | (go_at_call 29; refine (CoO.told_any _ _  (.inl rfl)).mono ?_; rintro e w' ⟨rfl, rfl⟩)
      | (go_at_call 35; refine (errno_same _ _).mono ?_; rintro e w' ⟨rfl, rfl⟩))
  rw [rounds_succ]
  go_wp2_with (first
      | (go_at_call 28; refine (CoO.issue_any _ _ _ _ _ (.inr ⟨_, rfl, HZ.out⟩)).mono ?_; rintro e w' ⟨rfl, rfl⟩)
      | (go_at_call 34; refine (CoO.retired_any _ _ _ _ _ _ (.inr ⟨_, rfl, HZ.out⟩)).mono ?_; rintro e w' ⟨rfl, rfl⟩)
      | (go_at_call 33; refine (CoO.has_any _ _ _ _ _ (.inr ⟨_, rfl, HZ.out⟩)).mono ?_; rintro e w' ⟨rfl, rfl⟩)
      | (go_at_call 29; refine (CoO.told_any _ _  (.inr ⟨_, rfl, HZ.out⟩)).mono ?_; rintro e w' ⟨rfl, rfl⟩)
      | (go_at_call 35; refine (errno_same _ _).mono ?_; rintro e w' ⟨rfl, rfl⟩))
  rw [rounds_succ]
  go_wp2
  clear HZ
  have HB : Hd (Below w.heap.size w (((((w.alloc (.cells #[.int .i64 k, .int .i64 q, .int .i64 t, .slice aa an ac, .slice ba bn bc, .int .u8 m0, .int .u8 m1, .int .u8 m2, .int .u8 m3, .int .u8 m4, .int .u8 m5, .int .u8 m6, .int .u8 m7, .int .u8 m8, .int .u8 m9, .int .u8 m10, .int .u8 m11, .int .u8 m12, .int .u8 m13, .int .u8 m14, .int .u8 m15] 92)).alloc (.cells #[.int .i64 0, .map none, .map none, .int .i64 0] 96)).alloc (.cells #[.pointer none, .pointer (some ⟨w.heap.size + 1, 0, none⟩)] 65)).alloc (.cells #[.int .i64 0, .map none, .map none, .int .i64 0, .int .i64 0] 101)).alloc (.cells #[.pointer none, .pointer (some ⟨w.heap.size + 1 + 1 + 1, 0, none⟩)] 69))) := ⟨by repeat (first | exact Below.refl _ _ | apply Bl.alloc)⟩
  have HBase : Hd (CoT.Base (((((w.alloc (.cells #[.int .i64 k, .int .i64 q, .int .i64 t, .slice aa an ac, .slice ba bn bc, .int .u8 m0, .int .u8 m1, .int .u8 m2, .int .u8 m3, .int .u8 m4, .int .u8 m5, .int .u8 m6, .int .u8 m7, .int .u8 m8, .int .u8 m9, .int .u8 m10, .int .u8 m11, .int .u8 m12, .int .u8 m13, .int .u8 m14, .int .u8 m15] 92)).alloc (.cells #[.int .i64 0, .map none, .map none, .int .i64 0] 96)).alloc (.cells #[.pointer none, .pointer (some ⟨w.heap.size + 1, 0, none⟩)] 65)).alloc (.cells #[.int .i64 0, .map none, .map none, .int .i64 0, .int .i64 0] 101)).alloc (.cells #[.pointer none, .pointer (some ⟨w.heap.size + 1 + 1 + 1, 0, none⟩)] 69)) w.heap.size (w.heap.size + 1 + 1 + 1) (w.heap.size + 1 + 1 + 1 + 1) k q t aa an ac ba bn bc m0 m1 m2 m3 m4 m5 m6 m7 m8 m9 m10 m11 m12 m13 m14 m15) := ⟨by
    constructor
    all_goals first | (go_simp; done) | (constructor <;> go_simp; done) | (simp; omega) | simp⟩
  obtain ⟨W, hW⟩ : ∃ W, (((((w.alloc (.cells #[.int .i64 k, .int .i64 q, .int .i64 t, .slice aa an ac, .slice ba bn bc, .int .u8 m0, .int .u8 m1, .int .u8 m2, .int .u8 m3, .int .u8 m4, .int .u8 m5, .int .u8 m6, .int .u8 m7, .int .u8 m8, .int .u8 m9, .int .u8 m10, .int .u8 m11, .int .u8 m12, .int .u8 m13, .int .u8 m14, .int .u8 m15] 92)).alloc (.cells #[.int .i64 0, .map none, .map none, .int .i64 0] 96)).alloc (.cells #[.pointer none, .pointer (some ⟨w.heap.size + 1, 0, none⟩)] 65)).alloc (.cells #[.int .i64 0, .map none, .map none, .int .i64 0, .int .i64 0] 101)).alloc (.cells #[.pointer none, .pointer (some ⟨w.heap.size + 1 + 1 + 1, 0, none⟩)] 69)) = W := ⟨_, rfl⟩
  rw [hW] at HB HBase ⊢
  clear hW
  obtain ⟨a0, a1, a2, a3, a4, a5, a6, a7, a8, a9, a10, a11, a12, a13, a14, a15, a16, a17, a18, a19, a20, z0, r0, r1, ls, lz, lr⟩ := HBase.out
  refine wp_loop_rounds 3 ?_
  rw [rounds_succ]
  go_wp2_with (first
      | ((with_reducible refine CoT.gate_st (t := 83) (p := .tmp 17) (v := .tmp 113) rfl ?_); refine wpList_store_row rfl 83 (.tmp 17) (.tmp 113) rfl _ #[.int .i64 0, .slice none 0 0, .int .u8 0, .int .u8 0, .int .u8 0, .int .u8 0, .int .u8 0, .int .u8 0, .int .u8 0, .int .u8 0, .int .u8 0, .int .u8 0, .int .u8 0, .int .u8 0, .int .u8 0, .int .u8 0, .int .u8 0, .int .u8 0, .bool false] rfl rfl 83 #[.int .i64 0, .slice none 0 0, .int .u8 0, .int .u8 0, .int .u8 0, .int .u8 0, .int .u8 0, .int .u8 0, .int .u8 0, .int .u8 0, .int .u8 0, .int .u8 0, .int .u8 0, .int .u8 0, .int .u8 0, .int .u8 0, .int .u8 0, .int .u8 0, .bool false] (heap_alloc_new _ _) CoT.one_size rfl (by kernel_rfl) ?_; rw [World.setRow_alloc_new])
      | ((with_reducible refine gate_ld (t := 81) rfl ?_); refine wpList_load_mid rfl 81 _ rfl w.heap.size 5 rfl [.int .u8 m0, .int .u8 m1, .int .u8 m2, .int .u8 m3, .int .u8 m4, .int .u8 m5, .int .u8 m6, .int .u8 m7, .int .u8 m8, .int .u8 m9, .int .u8 m10, .int .u8 m11, .int .u8 m12, .int .u8 m13, .int .u8 m14, .int .u8 m15] _ (mark_range (HBase.out.below (by repeat (first | exact Below.refl _ _ | apply Bl.alloc | apply Bl.drewN | apply Bl.drew)))) Try.underlying81 rfl mark_size ?_)
      | (go_at_call 30; refine (CoT.take_any _ _ _ _ _ _ _ _ _ _ _ _ _ _ _ _ _ _ _ _ _ _ _ _ (.inl rfl)).mono ?_; rintro e w1 ⟨rfl, hb⟩; have n0 := Hd.mk (HBase.out.below (Bl.then (by repeat (first | exact Below.refl _ _ | apply Bl.alloc | apply Bl.drewN | apply Bl.drew)) hb)); have n1 := Hd.mk (Bl.then (Bl.then HB.out (by repeat (first | exact Below.refl _ _ | apply Bl.alloc | apply Bl.drewN | apply Bl.drew))) hb); clear HBase HB a0 a1 a2 a3 a4 a5 a6 a7 a8 a9 a10 a11 a12 a13 a14 a15 a16 a17 a18 a19 a20 z0 r0 r1 ls lz lr; have HBase := n0; have HB := n1; clear n0 n1 hb; obtain ⟨a0, a1, a2, a3, a4, a5, a6, a7, a8, a9, a10, a11, a12, a13, a14, a15, a16, a17, a18, a19, a20, z0, r0, r1, ls, lz, lr⟩ := HBase.out)
      | (go_at_call 32; refine (CoT.now_any _ _  (.inl rfl)).mono ?_; rintro e w1 ⟨rfl, hb⟩; have n0 := Hd.mk (HBase.out.below (Bl.then (by repeat (first | exact Below.refl _ _ | apply Bl.alloc | apply Bl.drewN | apply Bl.drew)) hb)); have n1 := Hd.mk (Bl.then (Bl.then HB.out (by repeat (first | exact Below.refl _ _ | apply Bl.alloc | apply Bl.drewN | apply Bl.drew))) hb); clear HBase HB a0 a1 a2 a3 a4 a5 a6 a7 a8 a9 a10 a11 a12 a13 a14 a15 a16 a17 a18 a19 a20 z0 r0 r1 ls lz lr; have HBase := n0; have HB := n1; clear n0 n1 hb; obtain ⟨a0, a1, a2, a3, a4, a5, a6, a7, a8, a9, a10, a11, a12, a13, a14, a15, a16, a17, a18, a19, a20, z0, r0, r1, ls, lz, lr⟩ := HBase.out)
      | (go_at_call 31; refine (CoT.switch_any _ _  (.inl rfl)).mono ?_; rintro e w' ⟨rfl, rfl⟩)
      | (go_at_call 36; refine (CoT.resets_any _ _ _ _ _ _ _ _ _ _ _ _ _ _ _ _ _ _ (.inl rfl)).mono ?_; rintro e w1 ⟨rfl, hb⟩; have n0 := Hd.mk (HBase.out.below (Bl.then (by repeat (first | exact Below.refl _ _ | apply Bl.alloc | apply Bl.drewN | apply Bl.drew)) hb)); have n1 := Hd.mk (Bl.then (Bl.then HB.out (by repeat (first | exact Below.refl _ _ | apply Bl.alloc | apply Bl.drewN | apply Bl.drew))) hb); clear HBase HB a0 a1 a2 a3 a4 a5 a6 a7 a8 a9 a10 a11 a12 a13 a14 a15 a16 a17 a18 a19 a20 z0 r0 r1 ls lz lr; have HBase := n0; have HB := n1; clear n0 n1 hb; obtain ⟨a0, a1, a2, a3, a4, a5, a6, a7, a8, a9, a10, a11, a12, a13, a14, a15, a16, a17, a18, a19, a20, z0, r0, r1, ls, lz, lr⟩ := HBase.out)
      | (go_at_call 37; refine (CoT.mark_any _ _ _ _ _ _ _ _ _ _ _ _ _ _ _ _ _ _ (.inl rfl)).mono ?_; rintro e w1 ⟨rfl, hb⟩; have n0 := Hd.mk (HBase.out.below (Bl.then (by repeat (first | exact Below.refl _ _ | apply Bl.alloc | apply Bl.drewN | apply Bl.drew)) hb)); have n1 := Hd.mk (Bl.then (Bl.then HB.out (by repeat (first | exact Below.refl _ _ | apply Bl.alloc | apply Bl.drewN | apply Bl.drew))) hb); clear HBase HB a0 a1 a2 a3 a4 a5 a6 a7 a8 a9 a10 a11 a12 a13 a14 a15 a16 a17 a18 a19 a20 z0 r0 r1 ls lz lr; have HBase := n0; have HB := n1; clear n0 n1 hb; obtain ⟨a0, a1, a2, a3, a4, a5, a6, a7, a8, a9, a10, a11, a12, a13, a14, a15, a16, a17, a18, a19, a20, z0, r0, r1, ls, lz, lr⟩ := HBase.out)
      | (go_at_call 35; refine (errno_same _ _).mono ?_; rintro e w' ⟨rfl, rfl⟩))
  rw [rounds_succ]
  go_wp2_with (first
      | ((with_reducible refine CoT.gate_st (t := 83) (p := .tmp 17) (v := .tmp 113) rfl ?_); refine wpList_store_row rfl 83 (.tmp 17) (.tmp 113) rfl _ #[.int .i64 0, .slice none 0 0, .int .u8 0, .int .u8 0, .int .u8 0, .int .u8 0, .int .u8 0, .int .u8 0, .int .u8 0, .int .u8 0, .int .u8 0, .int .u8 0, .int .u8 0, .int .u8 0, .int .u8 0, .int .u8 0, .int .u8 0, .int .u8 0, .bool false] rfl rfl 83 #[.int .i64 0, .slice none 0 0, .int .u8 0, .int .u8 0, .int .u8 0, .int .u8 0, .int .u8 0, .int .u8 0, .int .u8 0, .int .u8 0, .int .u8 0, .int .u8 0, .int .u8 0, .int .u8 0, .int .u8 0, .int .u8 0, .int .u8 0, .int .u8 0, .bool false] (heap_alloc_new _ _) CoT.one_size rfl (by kernel_rfl) ?_; rw [World.setRow_alloc_new])
      | ((with_reducible refine gate_ld (t := 81) rfl ?_); refine wpList_load_mid rfl 81 _ rfl w.heap.size 5 rfl [.int .u8 m0, .int .u8 m1, .int .u8 m2, .int .u8 m3, .int .u8 m4, .int .u8 m5, .int .u8 m6, .int .u8 m7, .int .u8 m8, .int .u8 m9, .int .u8 m10, .int .u8 m11, .int .u8 m12, .int .u8 m13, .int .u8 m14, .int .u8 m15] _ (mark_range (HBase.out.below (by repeat (first | exact Below.refl _ _ | apply Bl.alloc | apply Bl.drewN | apply Bl.drew)))) Try.underlying81 rfl mark_size ?_)
      | (go_at_call 30; refine (CoT.take_any _ _ _ _ _ _ _ _ _ _ _ _ _ _ _ _ _ _ _ _ _ _ _ _ (.inr ⟨_, rfl, HBase.out.z0.below (by repeat (first | exact Below.refl _ _ | apply Bl.alloc | apply Bl.drewN | apply Bl.drew))⟩)).mono ?_; rintro e w2 ⟨rfl, hb⟩; have n0 := Hd.mk (HBase.out.below (Bl.then (by repeat (first | exact Below.refl _ _ | apply Bl.alloc | apply Bl.drewN | apply Bl.drew)) hb)); have n1 := Hd.mk (Bl.then (Bl.then HB.out (by repeat (first | exact Below.refl _ _ | apply Bl.alloc | apply Bl.drewN | apply Bl.drew))) hb); clear HBase HB a0 a1 a2 a3 a4 a5 a6 a7 a8 a9 a10 a11 a12 a13 a14 a15 a16 a17 a18 a19 a20 z0 r0 r1 ls lz lr; have HBase := n0; have HB := n1; clear n0 n1 hb; obtain ⟨a0, a1, a2, a3, a4, a5, a6, a7, a8, a9, a10, a11, a12, a13, a14, a15, a16, a17, a18, a19, a20, z0, r0, r1, ls, lz, lr⟩ := HBase.out)
      | (go_at_call 32; refine (CoT.now_any _ _  (.inr ⟨_, rfl, HBase.out.z0.below (by repeat (first | exact Below.refl _ _ | apply Bl.alloc | apply Bl.drewN | apply Bl.drew))⟩)).mono ?_; rintro e w2 ⟨rfl, hb⟩; have n0 := Hd.mk (HBase.out.below (Bl.then (by repeat (first | exact Below.refl _ _ | apply Bl.alloc | apply Bl.drewN | apply Bl.drew)) hb)); have n1 := Hd.mk (Bl.then (Bl.then HB.out (by repeat (first | exact Below.refl _ _ | apply Bl.alloc | apply Bl.drewN | apply Bl.drew))) hb); clear HBase HB a0 a1 a2 a3 a4 a5 a6 a7 a8 a9 a10 a11 a12 a13 a14 a15 a16 a17 a18 a19 a20 z0 r0 r1 ls lz lr; have HBase := n0; have HB := n1; clear n0 n1 hb; obtain ⟨a0, a1, a2, a3, a4, a5, a6, a7, a8, a9, a10, a11, a12, a13, a14, a15, a16, a17, a18, a19, a20, z0, r0, r1, ls, lz, lr⟩ := HBase.out)
      | (go_at_call 31; refine (CoT.switch_any _ _  (.inr ⟨_, rfl, HBase.out.z0.below (by repeat (first | exact Below.refl _ _ | apply Bl.alloc | apply Bl.drewN | apply Bl.drew))⟩)).mono ?_; rintro e w' ⟨rfl, rfl⟩)
      | (go_at_call 36; refine (CoT.resets_any _ _ _ _ _ _ _ _ _ _ _ _ _ _ _ _ _ _ (.inr ⟨_, rfl, HBase.out.z0.below (by repeat (first | exact Below.refl _ _ | apply Bl.alloc | apply Bl.drewN | apply Bl.drew))⟩)).mono ?_; rintro e w2 ⟨rfl, hb⟩; have n0 := Hd.mk (HBase.out.below (Bl.then (by repeat (first | exact Below.refl _ _ | apply Bl.alloc | apply Bl.drewN | apply Bl.drew)) hb)); have n1 := Hd.mk (Bl.then (Bl.then HB.out (by repeat (first | exact Below.refl _ _ | apply Bl.alloc | apply Bl.drewN | apply Bl.drew))) hb); clear HBase HB a0 a1 a2 a3 a4 a5 a6 a7 a8 a9 a10 a11 a12 a13 a14 a15 a16 a17 a18 a19 a20 z0 r0 r1 ls lz lr; have HBase := n0; have HB := n1; clear n0 n1 hb; obtain ⟨a0, a1, a2, a3, a4, a5, a6, a7, a8, a9, a10, a11, a12, a13, a14, a15, a16, a17, a18, a19, a20, z0, r0, r1, ls, lz, lr⟩ := HBase.out)
      | (go_at_call 37; refine (CoT.mark_any _ _ _ _ _ _ _ _ _ _ _ _ _ _ _ _ _ _ (.inr ⟨_, rfl, HBase.out.z0.below (by repeat (first | exact Below.refl _ _ | apply Bl.alloc | apply Bl.drewN | apply Bl.drew))⟩)).mono ?_; rintro e w2 ⟨rfl, hb⟩; have n0 := Hd.mk (HBase.out.below (Bl.then (by repeat (first | exact Below.refl _ _ | apply Bl.alloc | apply Bl.drewN | apply Bl.drew)) hb)); have n1 := Hd.mk (Bl.then (Bl.then HB.out (by repeat (first | exact Below.refl _ _ | apply Bl.alloc | apply Bl.drewN | apply Bl.drew))) hb); clear HBase HB a0 a1 a2 a3 a4 a5 a6 a7 a8 a9 a10 a11 a12 a13 a14 a15 a16 a17 a18 a19 a20 z0 r0 r1 ls lz lr; have HBase := n0; have HB := n1; clear n0 n1 hb; obtain ⟨a0, a1, a2, a3, a4, a5, a6, a7, a8, a9, a10, a11, a12, a13, a14, a15, a16, a17, a18, a19, a20, z0, r0, r1, ls, lz, lr⟩ := HBase.out)
      | (go_at_call 35; refine (errno_same _ _).mono ?_; rintro e w' ⟨rfl, rfl⟩))
  rw [rounds_succ]
  go_wp2
  go_ret
  exact ⟨rfl, HB.out⟩
end Go.Proofs.Ytiadfikhfimcoaa
