/- The statement RangesNobody: for every input the Go function returns true, and its arguments read as they read before; no condition. -/
import Derived.Test.YtmkojmjjlcfohaaRows
import Derived.Test.YtmkojmjjlcfohaaRangesLaw
import Derived.WalkKit
import Derived.ProofKit
import Derived.OpenShut
import Derived.ShutString
import Derived.ChangeOld
import Derived.Below
import Derived.SizedLaws
import Derived.Lib.SmallJoins
import Derived.Test.YtmkojmjjlcfohaaAgg
namespace Go.Proofs.Ytmkojmjjlcfohaa.rangesNobody
open Go.ChangeShapes Go.WideShapes Go.ChangeAt Go.RowKit
open Go.ChangeMaps (open_string shut_string)
set_option linter.unusedVariables false
set_option linter.unusedSimpArgs false

theorem own : ownKnob Try.prog.godebug = none := by kernel_rfl
theorem laidOut : laidOutB Try.prog = true := by kernel_rfl
set_option maxRecDepth 100000 in
theorem lifted (os : Os) (started : os.Started) (H : Type) (enc : TypeId × Value → H) :
    ReturnsInHanded {} Try.checked os 7 .any (Rows.rangesNobodySpec.pre6 enc Try.prog Try.f7 Rows.rangesNobodyRow.domain false) (Rows.rangesNobodySpec.post enc Try.prog Try.f7 false true false false) := by
  refine returnsInHanded_of_change_sized (C := Try.checked) own started (by kernel_rfl) Try.func7
    (ChangeSpec.witness6 (enc := enc) (C := Try.checked) false ⟨#[], #[.agg #[.int .i64 0, .int .i64 0, .int .i64 0, .int .i64 0]], []⟩ 8 (by kernel_rfl) (by kernel_rfl) (by kernel_rfl) (by kernel_rfl)) ?_
  intro W base args ds gs before hval0 hW hcnd hsz0 _
  have hsz : (DataW.weightsEach Try.prog (Try.f7.params.toList ++ Rows.rangesNobodySpec.plain.varTypes Try.prog) (ds ++ gs)).all (· ≤ reachBytes) = true := hsz0
  have hval : ∀ (j : Nat) t v, Try.f7.params[j]? = some t → args[j]? = some v → Value.okWide Try.prog W .any base t v := hval0
  have hW' := hW
  obtain ⟨p, q, hA0, hV, rfl, hfz, hnd⟩ := hW
  have hA : DataW.TrodAll enc Try.prog W 0 (fun _ => true) true Try.f7.params.toList args.toList ds p := hA0
  rw [Try.params7] at hA hval hsz
  obtain ⟨v0, vs0, d0, ds0, p0, q0, hargs, rfl, rfl, h0, r0⟩ := trodAll_cons hA
  obtain ⟨rfl, rfl, rfl⟩ := trodAll_nil r0
  obtain rfl : args = #[v0] := by cases args; simp_all
  obtain ⟨rfl, rfl⟩ := trodVars_none hV
  have hv0 := hval 0 58 v0 rfl rfl
  have k0 := h0
  have lt0 : ∀ x ∈ p0, x.block < W.heap.size := by obtain ⟨m, hm⟩ := k0; exact DataW.trod_lt m _ _ _ hm
  obtain ⟨cs, rfl, hlen, hf⟩ := open_fields Try.underlying58 (by kernel_rfl) (by kernel_rfl) hv0 h0
  obtain ⟨c0, y0, m0, g0, t0⟩ := hf 0 _ rfl
  obtain ⟨c1, y1, m1, g1, t1⟩ := hf 1 _ rfl
  obtain ⟨c2, y2, m2, g2, t2⟩ := hf 2 _ rfl
  obtain ⟨c3, y3, m3, g3, t3⟩ := hf 3 _ rfl
  obtain ⟨k, e0, _⟩ := DataW.trod_int Try.underlying3 t0
  obtain ⟨f, e1, _⟩ := DataW.trod_int Try.underlying3 t1
  obtain ⟨l, e2, _⟩ := DataW.trod_int Try.underlying3 t2
  obtain ⟨n, e3, _⟩ := DataW.trod_int Try.underlying3 t3
  obtain rfl := List.cons.inj e0 |>.1
  obtain rfl := List.cons.inj e1 |>.1
  obtain rfl := List.cons.inj e2 |>.1
  obtain rfl := List.cons.inj e3 |>.1
  obtain rfl : cs = [.int .i64 k, .int .i64 f, .int .i64 l, .int .i64 n] := list4 hlen g0 g1 g2 g3
  refine (RaN.nobody_walk k f l n W).mono fun e W' ⟨he, bel⟩ => ?_
  subst he
  exact ⟨_, rfl, _, _, _, [], _, [], hW', trodAll_mk1 (shut_bool Try.underlying4 _), (trodAll_cons_mk (Below.trod laidOut (by kernel_rfl) (of_decide_eq_true (by kernel_rfl)) k0 bel lt0) trodAll_mk0), rfl, bel.frame _, fun h => by cases h⟩
theorem proved : Rows.RangesNobodySaid :=
  OpenClaim.holds_of_wide 7 Try.f7 rfl rfl rfl rfl rfl rfl rfl ⟨rfl, rfl, rfl, rfl, rfl⟩ rfl rfl rfl rfl rfl (by kernel_rfl) Try.func7 (by kernel_rfl)
    (of_decide_eq_true (by kernel_rfl)) (by unfold Func.isWrapper; first | (rw [if_pos (by decide +kernel)]; kernel_rfl) | (rw [if_neg (by decide +kernel)]; exact ⟨rfl, rfl⟩))
    (fun os started H enc _ => lifted os started H enc)
#print axioms proved
end Go.Proofs.Ytmkojmjjlcfohaa.rangesNobody
namespace Go.Proofs.Ytmkojmjjlcfohaa
/-- The row, under a short name, for the claim. -/
theorem rangesNobody_holds : Rows.RangesNobodySaid := rangesNobody.proved
end Go.Proofs.Ytmkojmjjlcfohaa
