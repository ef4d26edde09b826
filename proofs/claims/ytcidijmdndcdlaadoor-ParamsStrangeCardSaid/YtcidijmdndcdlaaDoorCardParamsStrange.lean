/- The statement ParamsStrange: for every input the Go function returns true, and its arguments read as they read before; its one listed variable is tied to the program's text (the tied card). -/
import Derived.Test.YtcidijmdndcdlaaDoorCards
import Derived.Test.YtcidijmdndcdlaaDoorTie
import Derived.Test.YtcidijmdndcdlaaDoorPr18
import Derived.WalkKit
import Derived.ProofKit
import Derived.OpenShut
import Derived.ShutString
import Derived.ChangeOld
import Derived.Below
import Derived.SizedLaws
import Derived.Deep.DeepHandedRow
import Derived.Lib.LaidTab
import Derived.SevenTiedAt
set_option linter.unusedVariables false
set_option linter.unusedSimpArgs false
namespace Go.Proofs.YtcidijmdndcdlaaDoor.paramsStrange
open Go.ChangeShapes Go.WideShapes Go.ChangeAt Go.RowKit
theorem gTab : Tryd.prog.globalNamed "caravel/octet.widths" = some 0 := by kernel_rfl
theorem gTabType : (Tryd.prog.globals[0]?).map (·.type) = some 101 := by kernel_rfl
theorem cellsArr : Tryd.prog.cellsOf 101 = 4 := by kernel_rfl
theorem cellsInt : Tryd.prog.cellsOf 3 = 1 := by kernel_rfl
theorem table {W : World} (h : laidMetH Tryd.prog Rows.paramsStrangeRow.laid W) : Lib.TabIs Tryd.prog W "caravel/octet.widths" .i64 [6, 14, 30, 62] :=
  Lib.tabIs_of_head (rest := []) gTab gTabType Tryd.underlying101 Tryd.underlying3 cellsInt cellsArr h
theorem gl {W : World} (h : laidMetH Tryd.prog Rows.paramsStrangeRow.laid W) : GL W :=
  ⟨(table h).cell gTab 0 (by decide), (table h).cell gTab 1 (by decide), (table h).cell gTab 2 (by decide), (table h).cell gTab 3 (by decide)⟩
/-- A world for the witness: the table holds what its initialiser lays. -/
noncomputable def laidWorld (os : Os) : World :=
  { World.holding Tryd.prog os ⟨#[], #[], []⟩ with heap := (World.holding Tryd.prog os ⟨#[], #[], []⟩).heap.modify 0 fun
      | .cells _ t frozen => .cells #[.int .i64 6, .int .i64 14, .int .i64 30, .int .i64 62] t frozen
      | o => o }
theorem laid_met (os : Os) : laidMet Tryd.prog Rows.paramsStrangeRow.laid ((laidWorld os).forCall (fun _ _ => 0) ⟨#[], #[(.agg Pr.zero34), .agg #[.int .i64 0, .slice none 0 0], .bool false], []⟩).memory :=
  laidMet_of_run' 8 (by kernel_rfl) (by kernel_rfl)
theorem reads (os : Os) {H : Type} (enc : TypeId × Value → H) : ∃ x, DataW.whole enc Tryd.prog ((laidWorld os).forCall (fun _ _ => 0) ⟨#[], #[(.agg Pr.zero34), .agg #[.int .i64 0, .slice none 0 0], .bool false], []⟩).memory Tryd.f4.params.toList Rows.paramsStrangeSpec.vars false #[(.agg Pr.zero34), .agg #[.int .i64 0, .slice none 0 0], .bool false].toList 8 = some x :=
  Option.isSome_iff_exists.1 (by kernel_rfl)
theorem own : ownKnob Tryd.prog.godebug = none := by kernel_rfl
theorem laidOut : laidOutB Tryd.prog = true := by kernel_rfl
set_option maxRecDepth 100000 in
theorem lifted (os : Os) (started : os.Started) (H : Type) (enc : TypeId × Value → H) (F : Stop.Interp) :
    ReturnsInHanded {} Tryd.checked os 4 .any ((OpenSpec.ofChange Rows.paramsStrangeSpec).preRow enc Tryd.prog Tryd.f4 Rows.paramsStrangeRow.domain false Rows.paramsStrangeRow.laid) (((OpenSpec.ofChange Rows.paramsStrangeSpec).at F).post enc Tryd.prog Tryd.f4 false true false false) := by
  obtain ⟨x, hx⟩ := reads os enc
  refine returnsInHanded_of_row (C := Tryd.checked) (s := OpenSpec.ofChange Rows.paramsStrangeSpec) own started (by kernel_rfl) Tryd.func4
    (witness_row_at (enc := enc) (C := Tryd.checked) false (laidWorld os) #[(.agg Pr.zero34), .agg #[.int .i64 0, .slice none 0 0], .bool false] rfl (by kernel_rfl) (by kernel_rfl) (by kernel_rfl)
      (OpenSpec.preRow_of_cond 8 hx rfl (fun k hk => by cases hk) (by kernel_rfl) (laid_met os))) ?_
  intro W base args ds gs before hval0 hW hcnd _ hsz0 hL _ _
  have hsz : (DataW.weightsEach Tryd.prog (Tryd.f4.params.toList ++ Rows.paramsStrangeSpec.plain.varTypes Tryd.prog) (ds ++ gs)).all (· ≤ reachBytes) = true := hsz0
  have hval : ∀ (j : Nat) t v, Tryd.f4.params[j]? = some t → args[j]? = some v → Value.okWide Tryd.prog W .any base t v := hval0
  have hW' := hW
  obtain ⟨p, q, hA0, hV, rfl, hfz, hnd⟩ := hW
  have hA : DataW.TrodAll enc Tryd.prog W 0 (fun _ => true) true Tryd.f4.params.toList args.toList ds p := hA0
  rw [Tryd.params4] at hA hval hsz
  obtain ⟨v0, vs0, d0, ds0, p0, q0, hargs, rfl, rfl, h0, r0⟩ := trodAll_cons hA
  obtain ⟨v1, vs1, d1, ds1, p1, q1, rfl, rfl, rfl, h1, r1⟩ := trodAll_cons r0
  obtain ⟨v2, vs2, d2, ds2, p2, q2, rfl, rfl, rfl, h2, r2⟩ := trodAll_cons r1
  obtain ⟨rfl, rfl, rfl⟩ := trodAll_nil r2
  obtain rfl : args = #[v0, v1, v2] := by cases args; simp_all
  obtain ⟨rfl, rfl⟩ := trodVars_none hV
  have k0 := h0
  have lt0 : ∀ x ∈ p0, x.block < W.heap.size := by obtain ⟨m, hm⟩ := k0; exact DataW.trod_lt m _ _ _ hm
  have k1 := h1
  have lt1 : ∀ x ∈ p1, x.block < W.heap.size := by obtain ⟨m, hm⟩ := k1; exact DataW.trod_lt m _ _ _ hm
  have k2 := h2
  have lt2 : ∀ x ∈ p2, x.block < W.heap.size := by obtain ⟨m, hm⟩ := k2; exact DataW.trod_lt m _ _ _ hm
  obtain ⟨pm0, vo0, vf0, va0, rfl, hok0, htx0⟩ := Pr.open_pm (j := 0) (hval 0 25 v0 rfl rfl) hsz rfl rfl h0
  obtain ⟨cs1, rfl, hcl1⟩ := okWide_struct Tryd.underlying39 (hval 1 39 v1 rfl rfl)
  obtain ⟨⟨sn1, ys1⟩, ⟨r01, r11, hcc1, hn1, A1, c1, he1, hcap1, hr1⟩, hwn1, hwf1, hlen1⟩ := Op.open_arg (j := 1) (Op.opens_struct2 Tryd.underlying39 (by kernel_rfl) ⟨_, rfl, rfl, by kernel_rfl, Op.opens_int Tryd.underlying3⟩ ⟨_, rfl, rfl, by kernel_rfl, Op.opens_slice Tryd.underlying22 (by kernel_rfl) (Op.opens_int Tryd.underlying5)⟩) hsz rfl rfl h1
  rw [show Tryd.prog.bytesOf 5 = 1 by kernel_rfl] at hlen1
  obtain ⟨cl1⟩ := cs1
  have hn1' : r01 = [Value.int .i64 sn1] := hn1
  have he1' : r11 = [Value.slice A1 ys1.length c1] := he1
  have hcc1' : cl1 = r01 ++ r11 := hcc1
  subst hn1' he1'
  subst hcc1'
  obtain ⟨b2, rfl, rfl, rfl⟩ := open_bool Tryd.underlying4 (hval 2 4 v2 rfl rfl) h2
  clear hA0 hval0 hsz0 hsz
  refine (Pr.strange_walk (gl hL) hok0 htx0 sn1 (Pr.wf_int hwn1) ⟨A1, c1, rfl, hcap1, hr1⟩ (fun x hx => Pr.wf_u8 (hwf1 x hx)) (by unfold reachBytes at hlen1; unfold Pr.big; omega) b2).mono fun e W' ⟨he, bel⟩ => ?_
  subst he
  exact ⟨_, rfl, _, _, _, [], _, [], hW', trodAll_mk1 (shut_bool Tryd.underlying4 _), (trodAll_cons_mk (Below.trod laidOut (by kernel_rfl) (of_decide_eq_true (by kernel_rfl)) k0 bel lt0) (trodAll_cons_mk (Below.trod laidOut (by kernel_rfl) (of_decide_eq_true (by kernel_rfl)) k1 bel lt1) (trodAll_cons_mk (Below.trod laidOut (by kernel_rfl) (of_decide_eq_true (by kernel_rfl)) k2 bel lt2) trodAll_mk0))), rfl, bel.frame _, fun h => by cases h⟩
theorem over : Rows.ParamsStrangeSaid :=
  OpenClaim.holds_of_cond 4 Tryd.f4 rfl rfl rfl rfl rfl rfl rfl ⟨rfl, rfl, rfl, rfl, rfl⟩ rfl rfl rfl rfl rfl (by kernel_rfl) Tryd.func4 (by kernel_rfl)
    (of_decide_eq_true (by kernel_rfl)) (by unfold Func.isWrapper; first | (rw [if_pos (by decide +kernel)]; kernel_rfl) | (rw [if_neg (by decide +kernel)]; exact ⟨rfl, rfl⟩))
    (fun os started H enc _ F => by rw [OpenClaim.pre_eq_preRow]; exact lifted os started H enc F)
theorem plain (f : FuncId) (fn : Func) (hf : Tryd.pinned.checked.prog.funcNamed "caravel/caravellaw03.ParamsStrange" = some f) (hfn : Tryd.pinned.checked.prog.funcs[f]? = some fn) :
    true = Tryd.pinned.checked.prog.looks [] ∧ ∀ (j : Nat) t, fn.params[j]? = some t → Tryd.pinned.checked.prog.wantsStandIn t = false := by
  obtain rfl : f = 4 := Option.some.inj ((show Tryd.prog.funcNamed "caravel/caravellaw03.ParamsStrange" = some 4 by kernel_rfl).symm.trans hf) |>.symm
  obtain rfl : fn = Tryd.f4 := (Option.some.inj (Tryd.func4.symm.trans hfn)).symm
  refine ⟨by kernel_rfl, fun j t ht => ?_⟩
  rw [Tryd.params4] at ht
  have hm := Array.mem_of_getElem? ht
  simp only [List.mem_toArray, List.mem_cons, List.not_mem_nil, or_false] at hm
  rcases hm with rfl | rfl | rfl
  · exact (show Tryd.prog.wantsStandIn 25 = false by kernel_rfl)
  · exact (show Tryd.prog.wantsStandIn 39 = false by kernel_rfl)
  · exact (show Tryd.prog.wantsStandIn 4 = false by kernel_rfl)
/-- The tied card. -/
theorem proved : Rows.ParamsStrangeCardSaid :=
  Claim7.holds_tied_plain_at .later [] _ _ _ _ over (fun _ h => by cases h) (by kernel_rfl) (fun _ h => by cases h) paramsStrange_row_tie rfl ⟨rfl, rfl⟩ (by kernel_rfl) rfl plain (by kernel_rfl)
#print axioms proved
end Go.Proofs.YtcidijmdndcdlaaDoor.paramsStrange
namespace Go.Proofs.YtcidijmdndcdlaaDoor
/-- The card, under a short name, for the claim. -/
theorem paramsStrange_holds : Rows.ParamsStrangeCardSaid := paramsStrange.proved
end Go.Proofs.YtcidijmdndcdlaaDoor
