/- The statement PathThrice: for every input the Go function returns true, and its arguments read as they read before; no condition. -/
import Derived.Test.YtakmcbakogjeeaaRows
import Derived.Test.YtakmcbakogjeeaaPathThrice
import Derived.WalkKit
import Derived.ProofKit
import Derived.OpenShut
import Derived.ShutString
import Derived.ChangeOld
import Derived.Below
import Derived.SizedLaws
import Derived.JoinedCond
import Derived.Deep.CondSized
import Derived.Lib.SmallJoins
import Derived.Test.YtakmcbakogjeeaaAgg2
import Derived.Test.YtakmcbakogjeeaaOpens2
namespace Go.Proofs.Ytakmcbakogjeeaa.pathThrice
open Go.ChangeShapes Go.WideShapes Go.ChangeAt Go.RowKit
open Go.ChangeMaps (open_string shut_string)
set_option linter.unusedVariables false
set_option linter.unusedSimpArgs false

theorem own : ownKnob Try.prog.godebug = none := by kernel_rfl
theorem laidOut : laidOutB Try.prog = true := by kernel_rfl
theorem bulk_one {H : Type} (d : DataW H) : 1 ≤ Rows.uptoBulk d := by
  cases d with
  | lit x => cases x <;> simp [Rows.uptoBulk]
  | _ => simp [Rows.uptoBulk]
theorem bulk_len {H : Type} : ∀ l : List (DataW H), l.length ≤ Rows.uptoBulkAll l
  | [] => Nat.zero_le _
  | d :: r => by
    have h1 := bulk_one d
    have h2 := bulk_len r
    simp only [Rows.uptoBulkAll, List.length_cons]
    omega
set_option maxRecDepth 100000 in
theorem lifted (os : Os) (started : os.Started) (H : Type) (enc : TypeId × Value → H) (F0 : Stop.Interp) :
    ReturnsInHanded {} Try.checked os 11 .any ((Rows.OpenSpec.upto Rows.pathThriceSpec).pre6 enc Try.prog Try.f11 Rows.pathThriceUptoRow.domain false) (((Rows.OpenSpec.upto Rows.pathThriceSpec).at F0).post enc Try.prog Try.f11 false true false false) := by
  refine returnsInHanded_of_cond_sized (C := Try.checked) (s := Rows.OpenSpec.upto Rows.pathThriceSpec) (k := Rows.uptoSmall) rfl own started (by kernel_rfl) Try.func11
    (OpenSpec.witness (enc := enc) (C := Try.checked) (s := Rows.OpenSpec.upto Rows.pathThriceSpec) (k := Rows.uptoSmall) rfl false ⟨#[], #[.slice none 0 0], []⟩ 8 (by kernel_rfl) (by kernel_rfl) (by kernel_rfl)
      (x := ([.nil], [], [])) (by kernel_rfl) (by kernel_rfl) (by kernel_rfl)) ?_
  intro W base args ds gs before hval0 hW hcnd hk0 hsz0 _
  have hbulk : Rows.uptoBulkAll (ds ++ gs) ≤ 1048576 := of_decide_eq_true hk0
  have hsz : (DataW.weightsEach Try.prog (Try.f11.params.toList ++ Rows.pathThriceSpec.plain.varTypes Try.prog) (ds ++ gs)).all (· ≤ reachBytes) = true := hsz0
  have hval : ∀ (j : Nat) t v, Try.f11.params[j]? = some t → args[j]? = some v → Value.okWide Try.prog W .any base t v := hval0
  have hW' := hW
  obtain ⟨p, q, hA0, hV, rfl, hfz, hnd⟩ := hW
  have hA : DataW.TrodAll enc Try.prog W 0 (fun _ => true) true Try.f11.params.toList args.toList ds p := hA0
  rw [Try.params11] at hA hval hsz
  obtain ⟨v0, vs0, d0, ds0, p0, q0, hargs, rfl, rfl, h0, r0⟩ := trodAll_cons hA
  obtain ⟨rfl, rfl, rfl⟩ := trodAll_nil r0
  obtain rfl : args = #[v0] := by cases args; simp_all
  obtain ⟨rfl, rfl⟩ := trodVars_none hV
  have hv0 := hval 0 93 v0 rfl rfl
  have k0 := h0
  have lt0 : ∀ x ∈ p0, x.block < W.heap.size := by obtain ⟨m, hm⟩ := k0; exact DataW.trod_lt m _ _ _ hm
  obtain ⟨A1, c1, acts, rfl, hcap1, hr1, hok1, hw1⟩ := Op.open_slice_arg (j := 0) Try.underlying93 hv0 (Op.opens_slice Try.underlying93 (by kernel_rfl) (Op.opens_struct4 Try.underlying98 (by kernel_rfl) ⟨_, rfl, rfl, by kernel_rfl, Op.opens_int Try.underlying3⟩ ⟨_, rfl, rfl, by kernel_rfl, Op.opens_int Try.underlying3⟩ ⟨_, rfl, rfl, by kernel_rfl, Op.opens_int Try.underlying3⟩ ⟨_, rfl, rfl, by kernel_rfl, Op.opens_arr Try.underlying96 (by decide) (by kernel_rfl) (by kernel_rfl) (Op.opens_int Try.underlying5)⟩)) hsz rfl rfl h0
  have hlen : acts.length ≤ 1048576 := by
    rcases Op.slice_len Try.underlying93 h0 with e | ⟨es, sp, rfl, e⟩
    · omega
    · have h2 := bulk_len es
      simp only [List.append_nil, Rows.uptoBulkAll, Rows.uptoBulk] at hbulk
      omega
  refine (Pt.thrice_walk A1 acts c1 W hr1 hlen).mono fun e W' ⟨he, bel⟩ => ?_
  subst he
  exact ⟨_, rfl, _, _, _, [], _, [], hW', trodAll_mk1 (shut_bool Try.underlying4 _), (trodAll_cons_mk (Below.trod laidOut (by kernel_rfl) (of_decide_eq_true (by kernel_rfl)) k0 bel lt0) trodAll_mk0), rfl, bel.frame _, fun h => by cases h⟩
theorem proved : Rows.PathThriceUptoSaid :=
  OpenClaim.holds_of_cond 11 Try.f11 rfl rfl rfl rfl rfl rfl rfl ⟨rfl, rfl, rfl, rfl, rfl⟩ rfl rfl rfl rfl rfl (by kernel_rfl) Try.func11 (by kernel_rfl)
    (of_decide_eq_true (by kernel_rfl)) (by unfold Func.isWrapper; first | (rw [if_pos (by decide +kernel)]; kernel_rfl) | (rw [if_neg (by decide +kernel)]; exact ⟨rfl, rfl⟩))
    (fun os started H enc _ F0 => lifted os started H enc F0)
#print axioms proved
end Go.Proofs.Ytakmcbakogjeeaa.pathThrice
namespace Go.Proofs.Ytakmcbakogjeeaa
/-- The row, under a short name, for the claim. -/
theorem pathThrice_holds : Rows.PathThriceUptoSaid := pathThrice.proved
end Go.Proofs.Ytakmcbakogjeeaa
