/- The statement ConnidNobody: for every input the Go function returns true, and its arguments read as they read before; no condition. -/
import Derived.Test.YtiadfikhfimcoaaRows
import Derived.Test.YtiadfikhfimcoaaConnidLaw
import Derived.WalkKit
import Derived.ProofKit
import Derived.OpenShut
import Derived.ShutString
import Derived.ChangeOld
import Derived.Below
import Derived.SizedLaws
import Derived.Lib.SmallJoins
import Derived.Test.YtiadfikhfimcoaaAgg
import Derived.Test.YtiadfikhfimcoaaAgg2
namespace Go.Proofs.Ytiadfikhfimcoaa.connidNobody
open Go.ChangeShapes Go.WideShapes Go.ChangeAt Go.RowKit
open Go.ChangeMaps (open_string shut_string)
set_option linter.unusedVariables false
set_option linter.unusedSimpArgs false

theorem own : ownKnob Try.prog.godebug = none := by kernel_rfl
theorem laidOut : laidOutB Try.prog = true := by kernel_rfl
set_option maxRecDepth 100000 in
theorem lifted (os : Os) (started : os.Started) (H : Type) (enc : TypeId × Value → H) :
    ReturnsInHanded {} Try.checked os 7 .any (Rows.connidNobodySpec.pre6 enc Try.prog Try.f7 Rows.connidNobodyRow.domain false) (Rows.connidNobodySpec.post enc Try.prog Try.f7 false true false false) := by
  refine returnsInHanded_of_change_sized (C := Try.checked) own started (by kernel_rfl) Try.func7
    (ChangeSpec.witness6 (enc := enc) (C := Try.checked) false ⟨#[], #[.agg #[.int .i64 0, .int .i64 0, .int .i64 0, .slice none 0 0, .slice none 0 0, .int .u8 0, .int .u8 0, .int .u8 0, .int .u8 0, .int .u8 0, .int .u8 0, .int .u8 0, .int .u8 0, .int .u8 0, .int .u8 0, .int .u8 0, .int .u8 0, .int .u8 0, .int .u8 0, .int .u8 0, .int .u8 0]], []⟩ 8 (by kernel_rfl) (by kernel_rfl) (by kernel_rfl) (by kernel_rfl)) ?_
  intro W base args ds gs before hval0 hW hcnd hsz0 _
  have hsz : (DataW.weightsEach Try.prog (Try.f7.params.toList ++ Rows.connidNobodySpec.plain.varTypes Try.prog) (ds ++ gs)).all (· ≤ reachBytes) = true := hsz0
  have hval : ∀ (j : Nat) t v, Try.f7.params[j]? = some t → args[j]? = some v → Value.okWide Try.prog W .any base t v := hval0
  have hW' := hW
  obtain ⟨p, q, hA0, hV, rfl, hfz, hnd⟩ := hW
  have hA : DataW.TrodAll enc Try.prog W 0 (fun _ => true) true Try.f7.params.toList args.toList ds p := hA0
  rw [Try.params7] at hA hval hsz
  obtain ⟨v0, vs0, d0, ds0, p0, q0, hargs, rfl, rfl, h0, r0⟩ := trodAll_cons hA
  obtain ⟨rfl, rfl, rfl⟩ := trodAll_nil r0
  obtain rfl : args = #[v0] := by cases args; simp_all
  obtain ⟨rfl, rfl⟩ := trodVars_none hV
  have hv0 := hval 0 92 v0 rfl rfl
  have k0 := h0
  have lt0 : ∀ x ∈ p0, x.block < W.heap.size := by obtain ⟨m, hm⟩ := k0; exact DataW.trod_lt m _ _ _ hm
  obtain ⟨cs, rfl, hlen, hf⟩ := open_wide Try.underlying92 hv0 h0
  obtain ⟨c0, c1, c2, c3, c4, c5, c6, c7, c8, c9, c10, c11, c12, c13, c14, c15, c16, c17, c18, c19, c20, rfl⟩ := list21 (hlen.trans (by kernel_rfl))
  obtain ⟨y0, m0, t0⟩ := hf 0 _ 1 rfl (by kernel_rfl)
  obtain ⟨n0, e0, _⟩ := DataW.trod_int Try.underlying3 t0
  obtain rfl := List.cons.inj e0 |>.1
  obtain ⟨y1, m1, t1⟩ := hf 1 _ 1 rfl (by kernel_rfl)
  obtain ⟨n1, e1, _⟩ := DataW.trod_int Try.underlying3 t1
  obtain rfl := List.cons.inj e1 |>.1
  obtain ⟨y2, m2, t2⟩ := hf 2 _ 1 rfl (by kernel_rfl)
  obtain ⟨n2, e2, _⟩ := DataW.trod_int Try.underlying3 t2
  obtain rfl := List.cons.inj e2 |>.1
  obtain ⟨y3, m3, t3⟩ := hf 3 _ 1 rfl (by kernel_rfl)
  obtain ⟨aa, an, ac, e3⟩ := slice_shape Try.underlying68 t3
  obtain rfl := List.cons.inj e3 |>.1
  obtain ⟨y4, m4, t4⟩ := hf 4 _ 1 rfl (by kernel_rfl)
  obtain ⟨ba, bn, bc, e4⟩ := slice_shape Try.underlying68 t4
  obtain rfl := List.cons.inj e4 |>.1
  obtain ⟨y5, m5, t5⟩ := hf 5 _ 16 rfl (by kernel_rfl)
  have ha := open_array Try.underlying81 (by kernel_rfl) t5
  obtain ⟨z0, l0, u0⟩ := ha 0 (by decide)
  obtain ⟨b0, f0, _⟩ := DataW.trod_int Try.underlying5 u0
  obtain rfl := List.cons.inj f0 |>.1
  obtain ⟨z1, l1, u1⟩ := ha 1 (by decide)
  obtain ⟨b1, f1, _⟩ := DataW.trod_int Try.underlying5 u1
  obtain rfl := List.cons.inj f1 |>.1
  obtain ⟨z2, l2, u2⟩ := ha 2 (by decide)
  obtain ⟨b2, f2, _⟩ := DataW.trod_int Try.underlying5 u2
  obtain rfl := List.cons.inj f2 |>.1
  obtain ⟨z3, l3, u3⟩ := ha 3 (by decide)
  obtain ⟨b3, f3, _⟩ := DataW.trod_int Try.underlying5 u3
  obtain rfl := List.cons.inj f3 |>.1
  obtain ⟨z4, l4, u4⟩ := ha 4 (by decide)
  obtain ⟨b4, f4, _⟩ := DataW.trod_int Try.underlying5 u4
  obtain rfl := List.cons.inj f4 |>.1
  obtain ⟨z5, l5, u5⟩ := ha 5 (by decide)
  obtain ⟨b5, f5, _⟩ := DataW.trod_int Try.underlying5 u5
  obtain rfl := List.cons.inj f5 |>.1
  obtain ⟨z6, l6, u6⟩ := ha 6 (by decide)
  obtain ⟨b6, f6, _⟩ := DataW.trod_int Try.underlying5 u6
  obtain rfl := List.cons.inj f6 |>.1
  obtain ⟨z7, l7, u7⟩ := ha 7 (by decide)
  obtain ⟨b7, f7, _⟩ := DataW.trod_int Try.underlying5 u7
  obtain rfl := List.cons.inj f7 |>.1
  obtain ⟨z8, l8, u8⟩ := ha 8 (by decide)
  obtain ⟨b8, f8, _⟩ := DataW.trod_int Try.underlying5 u8
  obtain rfl := List.cons.inj f8 |>.1
  obtain ⟨z9, l9, u9⟩ := ha 9 (by decide)
  obtain ⟨b9, f9, _⟩ := DataW.trod_int Try.underlying5 u9
  obtain rfl := List.cons.inj f9 |>.1
  obtain ⟨z10, l10, u10⟩ := ha 10 (by decide)
  obtain ⟨b10, f10, _⟩ := DataW.trod_int Try.underlying5 u10
  obtain rfl := List.cons.inj f10 |>.1
  obtain ⟨z11, l11, u11⟩ := ha 11 (by decide)
  obtain ⟨b11, f11, _⟩ := DataW.trod_int Try.underlying5 u11
  obtain rfl := List.cons.inj f11 |>.1
  obtain ⟨z12, l12, u12⟩ := ha 12 (by decide)
  obtain ⟨b12, f12, _⟩ := DataW.trod_int Try.underlying5 u12
  obtain rfl := List.cons.inj f12 |>.1
  obtain ⟨z13, l13, u13⟩ := ha 13 (by decide)
  obtain ⟨b13, f13, _⟩ := DataW.trod_int Try.underlying5 u13
  obtain rfl := List.cons.inj f13 |>.1
  obtain ⟨z14, l14, u14⟩ := ha 14 (by decide)
  obtain ⟨b14, f14, _⟩ := DataW.trod_int Try.underlying5 u14
  obtain rfl := List.cons.inj f14 |>.1
  obtain ⟨z15, l15, u15⟩ := ha 15 (by decide)
  obtain ⟨b15, f15, _⟩ := DataW.trod_int Try.underlying5 u15
  obtain rfl := List.cons.inj f15 |>.1
  refine (connid_walk n0 n1 n2 aa an ac ba bn bc b0 b1 b2 b3 b4 b5 b6 b7 b8 b9 b10 b11 b12 b13 b14 b15 W).mono fun e W' ⟨he, bel⟩ => ?_
  subst he
  exact ⟨_, rfl, _, _, _, [], _, [], hW', trodAll_mk1 (shut_bool Try.underlying4 _), (trodAll_cons_mk (Below.trod laidOut (by kernel_rfl) (of_decide_eq_true (by kernel_rfl)) k0 bel lt0) trodAll_mk0), rfl, bel.frame _, fun h => by cases h⟩
theorem proved : Rows.ConnidNobodySaid :=
  OpenClaim.holds_of_wide 7 Try.f7 rfl rfl rfl rfl rfl rfl rfl ⟨rfl, rfl, rfl, rfl, rfl⟩ rfl rfl rfl rfl rfl (by kernel_rfl) Try.func7 (by kernel_rfl)
    (of_decide_eq_true (by kernel_rfl)) (by unfold Func.isWrapper; first | (rw [if_pos (by decide +kernel)]; kernel_rfl) | (rw [if_neg (by decide +kernel)]; exact ⟨rfl, rfl⟩))
    (fun os started H enc _ => lifted os started H enc)
#print axioms proved
end Go.Proofs.Ytiadfikhfimcoaa.connidNobody
namespace Go.Proofs.Ytiadfikhfimcoaa
/-- The row, under a short name, for the claim. -/
theorem connidNobody_holds : Rows.ConnidNobodySaid := connidNobody.proved
end Go.Proofs.Ytiadfikhfimcoaa
