/- The statement PathNobody: for every input the Go function returns true, and its arguments read as they read before; no condition. -/
import Derived.Test.YtakmcbakogjeeaaRows
import Derived.Test.YtakmcbakogjeeaaPathNobody
import Derived.WalkKit
import Derived.ProofKit
import Derived.OpenShut
import Derived.ShutString
import Derived.ChangeOld
import Derived.Below
import Derived.SizedLaws
import Derived.Lib.SmallJoins
import Derived.Test.YtakmcbakogjeeaaAgg2
namespace Go.Proofs.Ytakmcbakogjeeaa.pathNobody
open Go.ChangeShapes Go.WideShapes Go.ChangeAt Go.RowKit
open Go.ChangeMaps (open_string shut_string)
set_option linter.unusedVariables false
set_option linter.unusedSimpArgs false

theorem own : ownKnob Try.prog.godebug = none := by kernel_rfl
theorem laidOut : laidOutB Try.prog = true := by kernel_rfl
set_option maxRecDepth 100000 in
theorem lifted (os : Os) (started : os.Started) (H : Type) (enc : TypeId × Value → H) :
    ReturnsInHanded {} Try.checked os 12 .any (Rows.pathNobodySpec.pre6 enc Try.prog Try.f12 Rows.pathNobodyRow.domain false) (Rows.pathNobodySpec.post enc Try.prog Try.f12 false true false false) := by
  refine returnsInHanded_of_change_sized (C := Try.checked) own started (by kernel_rfl) Try.func12
    (ChangeSpec.witness6 (enc := enc) (C := Try.checked) false ⟨#[], #[.agg #[.int .i64 0, .int .i64 0, .int .i64 0, .int .u8 0, .int .u8 0, .int .u8 0, .int .u8 0, .int .u8 0, .int .u8 0, .int .u8 0, .int .u8 0]], []⟩ 8 (by kernel_rfl) (by kernel_rfl) (by kernel_rfl) (by kernel_rfl)) ?_
  intro W base args ds gs before hval0 hW hcnd hsz0 _
  have hsz : (DataW.weightsEach Try.prog (Try.f12.params.toList ++ Rows.pathNobodySpec.plain.varTypes Try.prog) (ds ++ gs)).all (· ≤ reachBytes) = true := hsz0
  have hval : ∀ (j : Nat) t v, Try.f12.params[j]? = some t → args[j]? = some v → Value.okWide Try.prog W .any base t v := hval0
  have hW' := hW
  obtain ⟨p, q, hA0, hV, rfl, hfz, hnd⟩ := hW
  have hA : DataW.TrodAll enc Try.prog W 0 (fun _ => true) true Try.f12.params.toList args.toList ds p := hA0
  rw [Try.params12] at hA hval hsz
  obtain ⟨v0, vs0, d0, ds0, p0, q0, hargs, rfl, rfl, h0, r0⟩ := trodAll_cons hA
  obtain ⟨rfl, rfl, rfl⟩ := trodAll_nil r0
  obtain rfl : args = #[v0] := by cases args; simp_all
  obtain ⟨rfl, rfl⟩ := trodVars_none hV
  have hv0 := hval 0 98 v0 rfl rfl
  have k0 := h0
  have lt0 : ∀ x ∈ p0, x.block < W.heap.size := by obtain ⟨m, hm⟩ := k0; exact DataW.trod_lt m _ _ _ hm
  obtain ⟨cs, rfl, hlen, hf⟩ := open_wide Try.underlying98 hv0 h0
  obtain ⟨c0, c1, c2, c3, c4, c5, c6, c7, c8, c9, c10, rfl⟩ := list11 (hlen.trans (by kernel_rfl))
  obtain ⟨y0, m0, t0⟩ := hf 0 _ 1 rfl (by kernel_rfl)
  obtain ⟨n0, e0, _⟩ := DataW.trod_int Try.underlying3 t0
  obtain rfl := List.cons.inj e0 |>.1
  obtain ⟨y1, m1, t1⟩ := hf 1 _ 1 rfl (by kernel_rfl)
  obtain ⟨n1, e1, _⟩ := DataW.trod_int Try.underlying3 t1
  obtain rfl := List.cons.inj e1 |>.1
  obtain ⟨y2, m2, t2⟩ := hf 2 _ 1 rfl (by kernel_rfl)
  obtain ⟨n2, e2, _⟩ := DataW.trod_int Try.underlying3 t2
  obtain rfl := List.cons.inj e2 |>.1
  obtain ⟨y3, m3, t3⟩ := hf 3 _ 8 rfl (by kernel_rfl)
  have ha := open_array Try.underlying96 (by kernel_rfl) t3
  obtain ⟨z0, l0, u0⟩ := ha 0 (by decide)
  obtain ⟨b0, f0, _⟩ := DataW.trod_int Try.underlying5 u0
  obtain rfl := List.cons.inj f0 |>.1
  obtain ⟨z1, l1, u1⟩ := ha 1 (by decide)
  obtain ⟨b1, f1, _⟩ := DataW.trod_int Try.underlying5 u1
  obtain rfl := List.cons.inj f1 |>.1
  obtain ⟨z2, l2, u2⟩ := ha 2 (by decide)
  obtain ⟨b2, f2, _⟩ := DataW.trod_int Try.underlying5 u2
  obtain rfl := List.cons.inj f2 |>.1
  obtain ⟨z3, l3, u3⟩ := ha 3 (by decide)
  obtain ⟨b3, f3, _⟩ := DataW.trod_int Try.underlying5 u3
  obtain rfl := List.cons.inj f3 |>.1
  obtain ⟨z4, l4, u4⟩ := ha 4 (by decide)
  obtain ⟨b4, f4, _⟩ := DataW.trod_int Try.underlying5 u4
  obtain rfl := List.cons.inj f4 |>.1
  obtain ⟨z5, l5, u5⟩ := ha 5 (by decide)
  obtain ⟨b5, f5, _⟩ := DataW.trod_int Try.underlying5 u5
  obtain rfl := List.cons.inj f5 |>.1
  obtain ⟨z6, l6, u6⟩ := ha 6 (by decide)
  obtain ⟨b6, f6, _⟩ := DataW.trod_int Try.underlying5 u6
  obtain rfl := List.cons.inj f6 |>.1
  obtain ⟨z7, l7, u7⟩ := ha 7 (by decide)
  obtain ⟨b7, f7, _⟩ := DataW.trod_int Try.underlying5 u7
  obtain rfl := List.cons.inj f7 |>.1
  refine (PaN.nobody_walk n0 n1 n2 b0 b1 b2 b3 b4 b5 b6 b7 W).mono fun e W' ⟨he, bel⟩ => ?_
  subst he
  exact ⟨_, rfl, _, _, _, [], _, [], hW', trodAll_mk1 (shut_bool Try.underlying4 _), (trodAll_cons_mk (Below.trod laidOut (by kernel_rfl) (of_decide_eq_true (by kernel_rfl)) k0 bel lt0) trodAll_mk0), rfl, bel.frame _, fun h => by cases h⟩
theorem proved : Rows.PathNobodySaid :=
  OpenClaim.holds_of_wide 12 Try.f12 rfl rfl rfl rfl rfl rfl rfl ⟨rfl, rfl, rfl, rfl, rfl⟩ rfl rfl rfl rfl rfl (by kernel_rfl) Try.func12 (by kernel_rfl)
    (of_decide_eq_true (by kernel_rfl)) (by unfold Func.isWrapper; first | (rw [if_pos (by decide +kernel)]; kernel_rfl) | (rw [if_neg (by decide +kernel)]; exact ⟨rfl, rfl⟩))
    (fun os started H enc _ => lifted os started H enc)
#print axioms proved
end Go.Proofs.Ytakmcbakogjeeaa.pathNobody
namespace Go.Proofs.Ytakmcbakogjeeaa
/-- The row, under a short name, for the claim. -/
theorem pathNobody_holds : Rows.PathNobodySaid := pathNobody.proved
end Go.Proofs.Ytakmcbakogjeeaa
