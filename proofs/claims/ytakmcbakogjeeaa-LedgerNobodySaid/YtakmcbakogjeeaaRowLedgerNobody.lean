/- The statement LedgerNobody: for every input the Go function returns true, and its arguments read as they read before; no condition. -/
import Derived.Test.YtakmcbakogjeeaaRows
import Derived.Test.YtakmcbakogjeeaaLedgerNobody
import Derived.WalkKit
import Derived.ProofKit
import Derived.OpenShut
import Derived.ShutString
import Derived.ChangeOld
import Derived.Below
import Derived.SizedLaws
import Derived.Lib.SmallJoins
import Derived.Test.YtakmcbakogjeeaaAgg
import Derived.Test.YtakmcbakogjeeaaAgg2b
namespace Go.Proofs.Ytakmcbakogjeeaa.ledgerNobody
open Go.ChangeShapes Go.WideShapes Go.ChangeAt Go.RowKit
open Go.ChangeMaps (open_string shut_string)
set_option linter.unusedVariables false
set_option linter.unusedSimpArgs false

theorem own : ownKnob Try.prog.godebug = none := by kernel_rfl
theorem laidOut : laidOutB Try.prog = true := by kernel_rfl
set_option maxRecDepth 100000 in
theorem lifted (os : Os) (started : os.Started) (H : Type) (enc : TypeId × Value → H) :
    ReturnsInHanded {} Try.checked os 14 .any (Rows.ledgerNobodySpec.pre6 enc Try.prog Try.f14 Rows.ledgerNobodyRow.domain false) (Rows.ledgerNobodySpec.post enc Try.prog Try.f14 false true false false) := by
  refine returnsInHanded_of_change_sized (C := Try.checked) own started (by kernel_rfl) Try.func14
    (ChangeSpec.witness6 (enc := enc) (C := Try.checked) false ⟨#[], #[.agg #[.int .i64 0, .int .i64 0, .int .i64 0, .int .i64 0, .bool false, .slice none 0 0, .int .i64 0, .int .i64 0]], []⟩ 8 (by kernel_rfl) (by kernel_rfl) (by kernel_rfl) (by kernel_rfl)) ?_
  intro W base args ds gs before hval0 hW hcnd hsz0 _
  have hsz : (DataW.weightsEach Try.prog (Try.f14.params.toList ++ Rows.ledgerNobodySpec.plain.varTypes Try.prog) (ds ++ gs)).all (· ≤ reachBytes) = true := hsz0
  have hval : ∀ (j : Nat) t v, Try.f14.params[j]? = some t → args[j]? = some v → Value.okWide Try.prog W .any base t v := hval0
  have hW' := hW
  obtain ⟨p, q, hA0, hV, rfl, hfz, hnd⟩ := hW
  have hA : DataW.TrodAll enc Try.prog W 0 (fun _ => true) true Try.f14.params.toList args.toList ds p := hA0
  rw [Try.params14] at hA hval hsz
  obtain ⟨v0, vs0, d0, ds0, p0, q0, hargs, rfl, rfl, h0, r0⟩ := trodAll_cons hA
  obtain ⟨rfl, rfl, rfl⟩ := trodAll_nil r0
  obtain rfl : args = #[v0] := by cases args; simp_all
  obtain ⟨rfl, rfl⟩ := trodVars_none hV
  have hv0 := hval 0 130 v0 rfl rfl
  have k0 := h0
  have lt0 : ∀ x ∈ p0, x.block < W.heap.size := by obtain ⟨m, hm⟩ := k0; exact DataW.trod_lt m _ _ _ hm
  obtain ⟨cs, rfl, hlen, hf⟩ := open_wide Try.underlying130 hv0 h0
  obtain ⟨c0, c1, c2, c3, c4, c5, c6, c7, rfl⟩ := list8 (hlen.trans (by kernel_rfl))
  obtain ⟨y0, m0, t0⟩ := hf 0 _ 1 rfl (by kernel_rfl)
  obtain ⟨k, ek, _⟩ := DataW.trod_int Try.underlying3 t0
  obtain rfl := List.cons.inj ek |>.1
  obtain ⟨y1, m1, t1⟩ := hf 1 _ 4 rfl (by kernel_rfl)
  have hg := open_inner Try.underlying127 t1
  obtain ⟨z0, l0, u0⟩ := hg 0 _ 1 rfl (by kernel_rfl)
  obtain ⟨pn, epn, _⟩ := DataW.trod_int Try.underlying3 u0
  obtain rfl := List.cons.inj epn |>.1
  obtain ⟨z1, l1, u1⟩ := hg 1 _ 1 rfl (by kernel_rfl)
  obtain ⟨pa, epa, _⟩ := DataW.trod_int Try.underlying3 u1
  obtain rfl := List.cons.inj epa |>.1
  obtain ⟨z2, l2, u2⟩ := hg 2 _ 1 rfl (by kernel_rfl)
  obtain ⟨ps, eps, _⟩ := DataW.trod_int Try.underlying3 u2
  obtain rfl := List.cons.inj eps |>.1
  obtain ⟨z3, l3, u3⟩ := hg 3 _ 1 rfl (by kernel_rfl)
  obtain ⟨pe, epe, _⟩ := DataW.trod_bool Try.underlying4 u3
  obtain rfl := List.cons.inj epe |>.1
  obtain ⟨y2, m2, t2⟩ := hf 2 _ 1 rfl (by kernel_rfl)
  obtain ⟨aa, dn, dc, esl⟩ := slice_shape Try.underlying128 t2
  obtain rfl := List.cons.inj esl |>.1
  obtain ⟨y3, m3, t3⟩ := hf 3 _ 1 rfl (by kernel_rfl)
  obtain ⟨n, en, _⟩ := DataW.trod_int Try.underlying3 t3
  obtain rfl := List.cons.inj en |>.1
  obtain ⟨y4, m4, t4⟩ := hf 4 _ 1 rfl (by kernel_rfl)
  obtain ⟨l, el, _⟩ := DataW.trod_int Try.underlying3 t4
  obtain rfl := List.cons.inj el |>.1
  refine (LeN.nobody_walk k pn pa ps pe aa dn dc n l W).mono fun e W' ⟨he, bel⟩ => ?_
  subst he
  exact ⟨_, rfl, _, _, _, [], _, [], hW', trodAll_mk1 (shut_bool Try.underlying4 _), (trodAll_cons_mk (Below.trod laidOut (by kernel_rfl) (of_decide_eq_true (by kernel_rfl)) k0 bel lt0) trodAll_mk0), rfl, bel.frame _, fun h => by cases h⟩
theorem proved : Rows.LedgerNobodySaid :=
  OpenClaim.holds_of_wide 14 Try.f14 rfl rfl rfl rfl rfl rfl rfl ⟨rfl, rfl, rfl, rfl, rfl⟩ rfl rfl rfl rfl rfl (by kernel_rfl) Try.func14 (by kernel_rfl)
    (of_decide_eq_true (by kernel_rfl)) (by unfold Func.isWrapper; first | (rw [if_pos (by decide +kernel)]; kernel_rfl) | (rw [if_neg (by decide +kernel)]; exact ⟨rfl, rfl⟩))
    (fun os started H enc _ => lifted os started H enc)
#print axioms proved
end Go.Proofs.Ytakmcbakogjeeaa.ledgerNobody
namespace Go.Proofs.Ytakmcbakogjeeaa
/-- The row, under a short name, for the claim. -/
theorem ledgerNobody_holds : Rows.LedgerNobodySaid := ledgerNobody.proved
end Go.Proofs.Ytakmcbakogjeeaa
