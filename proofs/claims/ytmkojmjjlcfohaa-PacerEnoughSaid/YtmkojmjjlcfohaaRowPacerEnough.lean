/- The statement PacerEnough: for every input the Go function returns true, and its arguments read as they read before; no condition. -/
import Derived.Test.YtmkojmjjlcfohaaRows
import Derived.Test.YtmkojmjjlcfohaaPacerEnough
import Derived.WalkKit
import Derived.ProofKit
import Derived.OpenShut
import Derived.ShutString
import Derived.ChangeOld
import Derived.Below
import Derived.SizedLaws
import Derived.Lib.SmallJoins
import Derived.Test.YtmkojmjjlcfohaaAgg
import Derived.Test.YtmkojmjjlcfohaaPacE4
namespace Go.Proofs.Ytmkojmjjlcfohaa.pacerEnough
open Go.ChangeShapes Go.WideShapes Go.ChangeAt Go.RowKit
open Go.ChangeMaps (open_string shut_string)
set_option linter.unusedVariables false
set_option linter.unusedSimpArgs false
theorem Pc.wf_i64' {a : Int} (h : (Lit.int .i64 a).wf = true) : -9223372036854775808 ≤ a ∧ a ≤ 9223372036854775807 := by
  have m0 : IntKind.i64.min = -9223372036854775808 := by decide +kernel
  have m1 : IntKind.i64.max = 9223372036854775807 := by decide +kernel
  simp [Lit.wf, m0, m1] at h
  exact h

theorem own : ownKnob Try.prog.godebug = none := by kernel_rfl
theorem laidOut : laidOutB Try.prog = true := by kernel_rfl
set_option maxRecDepth 100000 in
theorem lifted (os : Os) (started : os.Started) (H : Type) (enc : TypeId × Value → H) :
    ReturnsInHanded {} Try.checked os 3 .any (Rows.pacerEnoughSpec.pre6 enc Try.prog Try.f3 Rows.pacerEnoughRow.domain false) (Rows.pacerEnoughSpec.post enc Try.prog Try.f3 false true false false) := by
  refine returnsInHanded_of_change_sized (C := Try.checked) own started (by kernel_rfl) Try.func3
    (ChangeSpec.witness6 (enc := enc) (C := Try.checked) false ⟨#[], #[.agg #[.int .i64 0, .int .i64 0, .int .i64 0, .int .i64 0, .int .i64 0], .int .i64 0], []⟩ 8 (by kernel_rfl) (by kernel_rfl) (by kernel_rfl) (by kernel_rfl)) ?_
  intro W base args ds gs before hval0 hW hcnd hsz0 _
  have hsz : (DataW.weightsEach Try.prog (Try.f3.params.toList ++ Rows.pacerEnoughSpec.plain.varTypes Try.prog) (ds ++ gs)).all (· ≤ reachBytes) = true := hsz0
  have hval : ∀ (j : Nat) t v, Try.f3.params[j]? = some t → args[j]? = some v → Value.okWide Try.prog W .any base t v := hval0
  have hW' := hW
  obtain ⟨p, q, hA0, hV, rfl, hfz, hnd⟩ := hW
  have hA : DataW.TrodAll enc Try.prog W 0 (fun _ => true) true Try.f3.params.toList args.toList ds p := hA0
  rw [Try.params3] at hA hval hsz
  obtain ⟨v0, vs0, d0, ds0, p0, q0, hargs, rfl, rfl, h0, r0⟩ := trodAll_cons hA
  obtain ⟨v1, vs1, d1, ds1, p1, q1, rfl, rfl, rfl, h1, r1⟩ := trodAll_cons r0
  obtain ⟨rfl, rfl, rfl⟩ := trodAll_nil r1
  obtain rfl : args = #[v0, v1] := by cases args; simp_all
  obtain ⟨rfl, rfl⟩ := trodVars_none hV
  have hv0 := hval 0 23 v0 rfl rfl
  have k0 := h0
  have lt0 : ∀ x ∈ p0, x.block < W.heap.size := by obtain ⟨m, hm⟩ := k0; exact DataW.trod_lt m _ _ _ hm
  have hv1 := hval 1 3 v1 rfl rfl
  have k1 := h1
  have lt1 : ∀ x ∈ p1, x.block < W.heap.size := by obtain ⟨m, hm⟩ := k1; exact DataW.trod_lt m _ _ _ hm
  obtain ⟨cs, rfl, hlen, hf⟩ := open_fields Try.underlying23 (by kernel_rfl) (by kernel_rfl) hv0 h0
  obtain ⟨c0, y0, m0, g0, t0⟩ := hf 0 _ rfl
  obtain ⟨c1, y1, m1, g1, t1⟩ := hf 1 _ rfl
  obtain ⟨c2, y2, m2, g2, t2⟩ := hf 2 _ rfl
  obtain ⟨c3, y3, m3, g3, t3⟩ := hf 3 _ rfl
  obtain ⟨c4, y4, m4, g4, t4⟩ := hf 4 _ rfl
  obtain ⟨b, e0, _, wb⟩ := DataW.trod_int Try.underlying3 t0
  obtain ⟨n, e1, _, wn⟩ := DataW.trod_int Try.underlying3 t1
  obtain ⟨wi, e2, _⟩ := DataW.trod_int Try.underlying3 t2
  obtain ⟨rt, e3, _⟩ := DataW.trod_int Try.underlying3 t3
  obtain ⟨a, e4, _⟩ := DataW.trod_int Try.underlying3 t4
  obtain rfl := List.cons.inj e0 |>.1
  obtain rfl := List.cons.inj e1 |>.1
  obtain rfl := List.cons.inj e2 |>.1
  obtain rfl := List.cons.inj e3 |>.1
  obtain rfl := List.cons.inj e4 |>.1
  obtain rfl : cs = [.int .i64 b, .int .i64 n, .int .i64 wi, .int .i64 rt, .int .i64 a] := list5 hlen g0 g1 g2 g3 g4
  obtain ⟨x, rfl, rfl, rfl, wx⟩ := open_int Try.underlying3 hv1 h1
  refine (Pc.enough_walk Pc.div_ok b n wi rt a x (Pc.wf_i64' wb).1 (Pc.wf_i64' wb).2 (Pc.wf_i64' wn).1 (Pc.wf_i64' wn).2 W).mono fun e W' ⟨he, bel⟩ => ?_
  subst he
  exact ⟨_, rfl, _, _, _, [], _, [], hW', trodAll_mk1 (shut_bool Try.underlying4 _), (trodAll_cons_mk (Below.trod laidOut (by kernel_rfl) (of_decide_eq_true (by kernel_rfl)) k0 bel lt0) (trodAll_cons_mk (Below.trod laidOut (by kernel_rfl) (of_decide_eq_true (by kernel_rfl)) k1 bel lt1) trodAll_mk0)), rfl, bel.frame _, fun h => by cases h⟩
theorem proved : Rows.PacerEnoughSaid :=
  OpenClaim.holds_of_wide 3 Try.f3 rfl rfl rfl rfl rfl rfl rfl ⟨rfl, rfl, rfl, rfl, rfl⟩ rfl rfl rfl rfl rfl (by kernel_rfl) Try.func3 (by kernel_rfl)
    (of_decide_eq_true (by kernel_rfl)) (by unfold Func.isWrapper; first | (rw [if_pos (by decide +kernel)]; kernel_rfl) | (rw [if_neg (by decide +kernel)]; exact ⟨rfl, rfl⟩))
    (fun os started H enc _ => lifted os started H enc)
#print axioms proved
end Go.Proofs.Ytmkojmjjlcfohaa.pacerEnough
namespace Go.Proofs.Ytmkojmjjlcfohaa
/-- The row, under a short name, for the claim. -/
theorem pacerEnough_holds : Rows.PacerEnoughSaid := pacerEnough.proved
end Go.Proofs.Ytmkojmjjlcfohaa
