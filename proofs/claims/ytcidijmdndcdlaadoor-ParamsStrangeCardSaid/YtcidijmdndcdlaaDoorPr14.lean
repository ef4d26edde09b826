/- Parameters (layer 3): a record read by the law is equal to itself; what the law's calls tell, in the law's words; no condition. -/
import Derived.Test.YtcidijmdndcdlaaDoorPr13
import Derived.Test.YtcidijmdndcdlaaDoorPmPure2
import Derived.Test.YtcidijmdndcdlaaDoorWEqStruct
set_option linter.unusedVariables false
set_option linter.unusedSimpArgs false
namespace Go.Proofs.YtcidijmdndcdlaaDoor.Pr
open Go Go.RowKit Go.Maps Go.Proofs.YtcidijmdndcdlaaDoor.Pm Go.Proofs.YtcidijmdndcdlaaDoor.Rm Go.Proofs.YtcidijmdndcdlaaDoor.OctM
open Go.Proofs.YtcidijmdndcdlaaDoorW.PrintWords Go.Proofs.YtcidijmdndcdlaaDoorW.PrintLast Go.Proofs.YtcidijmdndcdlaaDoorW.PrintMore
variable {W W' W0 : World} {g b B m n : Nat} {p : Pm} {vo vf va : Value} {kv : KV} {came : List Int}
theorem equal_selfA {P : Program} (w : World) (d : Nat) (t e : TypeId) (n : Nat) (ht : P.underlying t = some (.array n e)) (hag : ∀ w, (isAgg e).run P w = .ok false w) (hsz : ∀ w, (sizeOf e).run P w = .ok 1 w)
    (vs : List Value) (hl : vs.length = n) (hv : ∀ v ∈ vs, (Op.equalIn (d + 1) e v v).run P w = .ok true w) :
    (Op.equalIn (d + 2) t (.agg vs.toArray) (.agg vs.toArray)).run P w = .ok true w := by
    rw [Op.equalIn]
    simp only [Sem.run_bind, run_underlying ht, Result.andThen_ok, hsz, Std.Legacy.Range.forIn_eq_forIn_range', Std.Legacy.Range.size, Nat.sub_zero, Nat.add_sub_cancel, Nat.div_one]
    have hl2 : ∀ i ∈ List.range' 0 n 1, i < n := fun i hi => by simpa using (List.mem_range'_1.1 hi).2
    generalize List.range' 0 n 1 = l at hl2 ⊢
    induction l with
    | nil => simp
    | cons i l ih =>
      have hi : i < n := hl2 i (by simp)
      have hi2 : i < vs.length := by omega
      have px : (part e vs.toArray (i * 1)).run P w = .ok vs[i] w := by
        simp [part, hag, List.getElem?_eq_getElem hi2]
      have pe := hv vs[i] (List.getElem_mem hi2)
      simp only [List.forIn_cons, Sem.run_bind, px, pe, Result.andThen_ok]
      simp only [Bool.not_true, Bool.false_eq_true, if_false, Sem.run_pure, Result.andThen_ok]
      exact ih fun j hj => hl2 j (by simp [hj])
def refInts (p : Pm) : List Int := [0, p.nk 0, 0, p.nk 1, p.nk 2, p.nk 3, p.nk 4, p.nk 5, p.nk 6, p.nk 7, p.nk 8, p.nk 9, (if p.still then 1 else 0), 0, p.nk 10, 0, 0, 0, 0, 0, 0, 0, 0, 0, 0, 0, 0, 0, 0, 0, 0, 0, p.nk 11]
def refStrs (p : Pm) : List ByteArray := [strOfNums p.orig, ByteArray.empty, strOfNums p.reset, ByteArray.empty, ByteArray.empty, ByteArray.empty, ByteArray.empty, ByteArray.empty, ByteArray.empty, ByteArray.empty, ByteArray.empty, ByteArray.empty, ByteArray.empty, ByteArray.empty, ByteArray.empty, strOfNums p.first, strOfNums p.again, ByteArray.empty, ByteArray.empty, ByteArray.empty, ByteArray.empty, ByteArray.empty, ByteArray.empty, ByteArray.empty, ByteArray.empty, ByteArray.empty, ByteArray.empty, ByteArray.empty, ByteArray.empty, ByteArray.empty, ByteArray.empty, ByteArray.empty, ByteArray.empty]
theorem part_n (p : Pm) (w : World) : (part 32 (refRow p) 0).run Tryd.prog w = .ok (.agg ((refInts p).map (Value.int .i64)).toArray) w := by kernel_rfl
theorem part_t (p : Pm) (w : World) : (part 33 (refRow p) 33).run Tryd.prog w = .ok (.agg ((refStrs p).map Value.string).toArray) w := by kernel_rfl
theorem part_a (p : Pm) (w : World) : (part 4 (refRow p) 66).run Tryd.prog w = .ok (.bool p.hasAgain) w := by kernel_rfl
theorem part_r (p : Pm) (w : World) : (part 4 (refRow p) 67).run Tryd.prog w = .ok (.bool p.hasReset) w := by kernel_rfl
set_option maxRecDepth 100000 in
theorem ref_self (p : Pm) (w : World) : (Op.equalIn 10000 35 (.agg (refRow p)) (.agg (refRow p))).run Tryd.prog w = .ok true w := by
  have e1 : (Op.equalIn 9999 32 (.agg ((refInts p).map (Value.int .i64)).toArray) (.agg ((refInts p).map (Value.int .i64)).toArray)).run Tryd.prog w = .ok true w :=
    equal_selfA w 9997 32 3 33 Tryd.underlying32 (fun w => by kernel_rfl) (fun w => by kernel_rfl) _ (by rfl) (fun v hv => by
      rw [List.mem_map] at hv
      obtain ⟨x, _, rfl⟩ := hv
      rw [run_equalIn_int w 9997 3 .i64 .i64 x x Tryd.underlying3]; simp)
  have e2 : (Op.equalIn 9999 33 (.agg ((refStrs p).map Value.string).toArray) (.agg ((refStrs p).map Value.string).toArray)).run Tryd.prog w = .ok true w :=
    equal_selfA w 9997 33 9 33 Tryd.underlying33 (fun w => by kernel_rfl) (fun w => by kernel_rfl) _ (by rfl) (fun v hv => by
      rw [List.mem_map] at hv
      obtain ⟨x, _, rfl⟩ := hv
      rw [run_equalIn_string w 9997 9 x x Tryd.underlying9]; simp)
  have e3 : ∀ b : Bool, (Op.equalIn 9999 4 (.bool b) (.bool b)).run Tryd.prog w = .ok true w := fun b => by
    rw [run_equalIn_bool' w 9998 4 b b Tryd.underlying4]; simp
  refine eqA_of Tryd.underlying35 (by kernel_rfl) ?_
  exact eqf_end (by rfl) (part_n p w) (part_n p w) e1 (eqf_end (by rfl) (part_t p w) (part_t p w) e2 (eqf_end (by rfl) (part_a p w) (part_a p w) (e3 _) (eqf_last (by rfl) (part_r p w) (part_r p w) (e3 _))))
theorem eql_ref (p : Pm) (w : World) : (binOp .eql 35 (.agg (refRow p)) (.agg (refRow p))).run Tryd.prog w = .ok (.bool true) w := by
  rw [run_eql_struct, ref_self]; rfl
theorem neq_ref (p : Pm) (w : World) : (binOp .neq 35 (.agg (refRow p)) (.agg (refRow p))).run Tryd.prog w = .ok (.bool false) w := by
  rw [run_neq_struct, ref_self]; rfl
end Go.Proofs.YtcidijmdndcdlaaDoor.Pr
