/- Parameters (layer 3): the record that comes in; no condition. -/
import Derived.Test.YtcidijmdndcdlaaDoorPr15
import Derived.Test.YtcidijmdndcdlaaDoorOpensB
set_option linter.unusedVariables false
set_option linter.unusedSimpArgs false
namespace Go.Proofs.YtcidijmdndcdlaaDoor.Pr
theorem list34 {α : Type} {l : List α} (h : l.length = 34) : ∃ zc0 zc1 zc2 zc3 zc4 zc5 zc6 zc7 zc8 zc9 zc10 zc11 zc12 zc13 zc14 zc15 zc16 zc17 zc18 zc19 zc20 zc21 zc22 zc23 zc24 zc25 zc26 zc27 zc28 zc29 zc30 zc31 zc32 zc33, l = [zc0, zc1, zc2, zc3, zc4, zc5, zc6, zc7, zc8, zc9, zc10, zc11, zc12, zc13, zc14, zc15, zc16, zc17, zc18, zc19, zc20, zc21, zc22, zc23, zc24, zc25, zc26, zc27, zc28, zc29, zc30, zc31, zc32, zc33] := by
  match l, h with
  | zc0 :: zc1 :: zc2 :: zc3 :: zc4 :: zc5 :: zc6 :: zc7 :: zc8 :: zc9 :: zc10 :: zc11 :: zc12 :: zc13 :: zc14 :: zc15 :: zc16 :: zc17 :: zc18 :: zc19 :: zc20 :: zc21 :: zc22 :: zc23 :: zc24 :: zc25 :: zc26 :: zc27 :: zc28 :: zc29 :: zc30 :: zc31 :: zc32 :: zc33 :: [], _ => exact ⟨zc0, zc1, zc2, zc3, zc4, zc5, zc6, zc7, zc8, zc9, zc10, zc11, zc12, zc13, zc14, zc15, zc16, zc17, zc18, zc19, zc20, zc21, zc22, zc23, zc24, zc25, zc26, zc27, zc28, zc29, zc30, zc31, zc32, zc33, rfl⟩
open Go Go.RowKit Go.Maps Go.ChangeShapes Go.WideShapes Go.Deep Go.Proofs.YtcidijmdndcdlaaDoor.Pm Go.Proofs.YtcidijmdndcdlaaDoor.Rm Go.Proofs.YtcidijmdndcdlaaDoor.OctM
open Go.Proofs.YtcidijmdndcdlaaDoorW.PrintWords Go.Proofs.YtcidijmdndcdlaaDoorW.PrintLast Go.Proofs.YtcidijmdndcdlaaDoorW.PrintMore
theorem wf_u8 {x : Int} (h : (Lit.int .u8 x).wf = true) : 0 ≤ x ∧ x < 256 := by
  have m0 : IntKind.u8.min = 0 := by decide +kernel
  have m1 : IntKind.u8.max = 255 := by decide +kernel
  simp [Lit.wf] at h
  omega
theorem wf_int {x : Int} (h : (Lit.int .i64 x).wf = true) : -9223372036854775808 ≤ x ∧ x ≤ 9223372036854775807 := by
  have m0 : IntKind.i64.min = -9223372036854775808 := by decide +kernel
  have m1 : IntKind.i64.max = 9223372036854775807 := by decide +kernel
  simp [Lit.wf] at h
  omega
set_option maxRecDepth 100000 in
theorem open_pm {H : Type} {enc : TypeId × Value → H} {W : World} {base : Nat} {spare : Nat → Bool} {held : Bool} {D : DataW H} {ps : List MemPlace} {ts : List TypeId} {ds : List (DataW H)} {j : Nat} {v : Value} {r : Reach} {b0 : Nat}
    (hv : Value.okWide Tryd.prog W r b0 25 v) (hsz : (DataW.weightsEach Tryd.prog ts ds).all (· ≤ reachBytes) = true) (ht : ts[j]? = some 25) (hd : ds[j]? = some D) (h : DataW.Trod enc Tryd.prog W base spare held 25 v D ps) :
    ∃ p vo vf va, v = .agg (pmRow p vo vf va) ∧ p.Ok ∧ Tx W p vo vf va := by
  obtain ⟨cs, rfl, hl⟩ := okWide_struct Tryd.underlying25 hv
  obtain ⟨cs⟩ := cs
  have hl' : cs.length = 34 := hl
  obtain ⟨fuel, hf⟩ := h
  have hw : ∀ n ∈ D.weights Tryd.prog 25, n ≤ reachBytes := fun n hn => by
    have := List.all_eq_true.1 hsz _ (DataW.weights_mem_each ht hd n hn)
    simpa using this
  obtain ⟨_, hfl⟩ := Op.fields_of Tryd.underlying25 hf hw
  obtain ⟨zc0, zc1, zc2, zc3, zc4, zc5, zc6, zc7, zc8, zc9, zc10, zc11, zc12, zc13, zc14, zc15, zc16, zc17, zc18, zc19, zc20, zc21, zc22, zc23, zc24, zc25, zc26, zc27, zc28, zc29, zc30, zc31, zc32, zc33, rfl⟩ := list34 hl'
  have oi := Op.opens_int Tryd.underlying3
  have ob := Op.opens_bool Tryd.underlying4
  have os := Op.opens_slice Tryd.underlying22 (by kernel_rfl) (Op.opens_int Tryd.underlying5)
  have oa := Op.opens_arr Tryd.underlying23 (by decide) (by kernel_rfl) (by kernel_rfl) (Op.opens_int Tryd.underlying5)
  obtain ⟨x0, m0, t0, w0⟩ := hfl 0 _ rfl
  obtain ⟨n0, k0, q0⟩ := oi H enc W base spare held m0 _ x0 t0 w0
  have e0 : [zc0] = [Value.int .i64 n0] := k0
  injection e0 with e0 _
  obtain ⟨x1, m1, t1, w1⟩ := hfl 1 _ rfl
  obtain ⟨n1, k1, q1⟩ := oi H enc W base spare held m1 _ x1 t1 w1
  have e1 : [zc1] = [Value.int .i64 n1] := k1
  injection e1 with e1 _
  obtain ⟨x2, m2, t2, w2⟩ := hfl 2 _ rfl
  obtain ⟨n2, k2, q2⟩ := oi H enc W base spare held m2 _ x2 t2 w2
  have e2 : [zc2] = [Value.int .i64 n2] := k2
  injection e2 with e2 _
  obtain ⟨x3, m3, t3, w3⟩ := hfl 3 _ rfl
  obtain ⟨n3, k3, q3⟩ := oi H enc W base spare held m3 _ x3 t3 w3
  have e3 : [zc3] = [Value.int .i64 n3] := k3
  injection e3 with e3 _
  obtain ⟨x4, m4, t4, w4⟩ := hfl 4 _ rfl
  obtain ⟨n4, k4, q4⟩ := oi H enc W base spare held m4 _ x4 t4 w4
  have e4 : [zc4] = [Value.int .i64 n4] := k4
  injection e4 with e4 _
  obtain ⟨x5, m5, t5, w5⟩ := hfl 5 _ rfl
  obtain ⟨n5, k5, q5⟩ := oi H enc W base spare held m5 _ x5 t5 w5
  have e5 : [zc5] = [Value.int .i64 n5] := k5
  injection e5 with e5 _
  obtain ⟨x6, m6, t6, w6⟩ := hfl 6 _ rfl
  obtain ⟨n6, k6, q6⟩ := oi H enc W base spare held m6 _ x6 t6 w6
  have e6 : [zc6] = [Value.int .i64 n6] := k6
  injection e6 with e6 _
  obtain ⟨x7, m7, t7, w7⟩ := hfl 7 _ rfl
  obtain ⟨n7, k7, q7⟩ := oi H enc W base spare held m7 _ x7 t7 w7
  have e7 : [zc7] = [Value.int .i64 n7] := k7
  injection e7 with e7 _
  obtain ⟨x8, m8, t8, w8⟩ := hfl 8 _ rfl
  obtain ⟨n8, k8, q8⟩ := oi H enc W base spare held m8 _ x8 t8 w8
  have e8 : [zc8] = [Value.int .i64 n8] := k8
  injection e8 with e8 _
  obtain ⟨x9, m9, t9, w9⟩ := hfl 9 _ rfl
  obtain ⟨n9, k9, q9⟩ := oi H enc W base spare held m9 _ x9 t9 w9
  have e9 : [zc9] = [Value.int .i64 n9] := k9
  injection e9 with e9 _
  obtain ⟨x10, m10, t10, w10⟩ := hfl 10 _ rfl
  obtain ⟨b10, k10, q10⟩ := ob H enc W base spare held m10 _ x10 t10 w10
  have e10 : [zc10] = [Value.bool b10] := k10
  injection e10 with e10 _
  obtain ⟨x11, m11, t11, w11⟩ := hfl 11 _ rfl
  obtain ⟨n11, k11, q11⟩ := oi H enc W base spare held m11 _ x11 t11 w11
  have e11 : [zc11] = [Value.int .i64 n11] := k11
  injection e11 with e11 _
  obtain ⟨x12, m12, t12, w12⟩ := hfl 12 _ rfl
  obtain ⟨n12, k12, q12⟩ := oi H enc W base spare held m12 _ x12 t12 w12
  have e12 : [zc12] = [Value.int .i64 n12] := k12
  injection e12 with e12 _
  obtain ⟨x13, m13, t13, w13⟩ := hfl 13 _ rfl
  obtain ⟨y13, k13, q13⟩ := os H enc W base spare held m13 _ x13 t13 w13
  obtain ⟨A13, u13, g13, h13, hC13⟩ := k13
  have e13 : [zc13] = [Value.slice A13 y13.length u13] := g13
  injection e13 with e13 _
  obtain ⟨x14, m14, t14, w14⟩ := hfl 14 _ rfl
  obtain ⟨y14, k14, q14⟩ := os H enc W base spare held m14 _ x14 t14 w14
  obtain ⟨A14, u14, g14, h14, hC14⟩ := k14
  have e14 : [zc14] = [Value.slice A14 y14.length u14] := g14
  injection e14 with e14 _
  obtain ⟨x15, m15, t15, w15⟩ := hfl 15 _ rfl
  obtain ⟨y15, k15, q15⟩ := os H enc W base spare held m15 _ x15 t15 w15
  obtain ⟨A15, u15, g15, h15, hC15⟩ := k15
  have e15 : [zc15] = [Value.slice A15 y15.length u15] := g15
  injection e15 with e15 _
  obtain ⟨x16, m16, t16, w16⟩ := hfl 16 _ rfl
  obtain ⟨b16, k16, q16⟩ := ob H enc W base spare held m16 _ x16 t16 w16
  have e16 : [zc16] = [Value.bool b16] := k16
  injection e16 with e16 _
  obtain ⟨x17, m17, t17, w17⟩ := hfl 17 _ rfl
  obtain ⟨y17, k17, q17⟩ := oa H enc W base spare held m17 _ x17 t17 w17
  obtain ⟨hl17, hr17⟩ := k17
  obtain ⟨d0, d1, d2, d3, d4, d5, d6, d7, d8, d9, d10, d11, d12, d13, d14, d15, hd17⟩ := list16 hl17
  subst hd17
  have a0 : [zc17] = [Value.int .u8 d0] := hr17.2 0 d0 rfl
  injection a0 with a0 _
  have a1 : [zc18] = [Value.int .u8 d1] := hr17.2 1 d1 rfl
  injection a1 with a1 _
  have a2 : [zc19] = [Value.int .u8 d2] := hr17.2 2 d2 rfl
  injection a2 with a2 _
  have a3 : [zc20] = [Value.int .u8 d3] := hr17.2 3 d3 rfl
  injection a3 with a3 _
  have a4 : [zc21] = [Value.int .u8 d4] := hr17.2 4 d4 rfl
  injection a4 with a4 _
  have a5 : [zc22] = [Value.int .u8 d5] := hr17.2 5 d5 rfl
  injection a5 with a5 _
  have a6 : [zc23] = [Value.int .u8 d6] := hr17.2 6 d6 rfl
  injection a6 with a6 _
  have a7 : [zc24] = [Value.int .u8 d7] := hr17.2 7 d7 rfl
  injection a7 with a7 _
  have a8 : [zc25] = [Value.int .u8 d8] := hr17.2 8 d8 rfl
  injection a8 with a8 _
  have a9 : [zc26] = [Value.int .u8 d9] := hr17.2 9 d9 rfl
  injection a9 with a9 _
  have a10 : [zc27] = [Value.int .u8 d10] := hr17.2 10 d10 rfl
  injection a10 with a10 _
  have a11 : [zc28] = [Value.int .u8 d11] := hr17.2 11 d11 rfl
  injection a11 with a11 _
  have a12 : [zc29] = [Value.int .u8 d12] := hr17.2 12 d12 rfl
  injection a12 with a12 _
  have a13 : [zc30] = [Value.int .u8 d13] := hr17.2 13 d13 rfl
  injection a13 with a13 _
  have a14 : [zc31] = [Value.int .u8 d14] := hr17.2 14 d14 rfl
  injection a14 with a14 _
  have a15 : [zc32] = [Value.int .u8 d15] := hr17.2 15 d15 rfl
  injection a15 with a15 _
  obtain ⟨x18, m18, t18, w18⟩ := hfl 18 _ rfl
  obtain ⟨b18, k18, q18⟩ := ob H enc W base spare held m18 _ x18 t18 w18
  have e18 : [zc33] = [Value.bool b18] := k18
  injection e18 with e18 _
  subst e0 e1 e2 e3 e4 e5 e6 e7 e8 e9 e10 e11 e12 e13 e14 e15 e16 e18 a0 a1 a2 a3 a4 a5 a6 a7 a8 a9 a10 a11 a12 a13 a14 a15
  refine ⟨⟨[n0, n1, n2, n3, n4, n5, n6, n7, n8, n9, n11, n12], b10, y13, y14, y15, b16, [d0, d1, d2, d3, d4, d5, d6, d7, d8, d9, d10, d11, d12, d13, d14, d15], b18⟩, .slice A13 y13.length u13, .slice A14 y14.length u14, .slice A15 y15.length u15, rfl, ⟨rfl, rfl, fun x hx => wf_u8 (q13.1 x hx), fun x hx => wf_u8 (q14.1 x hx), fun x hx => wf_u8 (q15.1 x hx), fun x hx => wf_u8 (q17 x hx)⟩, ⟨⟨A13, u13, rfl, h13, hC13⟩, ⟨A14, u14, rfl, h14, hC14⟩, ⟨A15, u15, rfl, h15, hC15⟩⟩⟩
end Go.Proofs.YtcidijmdndcdlaaDoor.Pr
