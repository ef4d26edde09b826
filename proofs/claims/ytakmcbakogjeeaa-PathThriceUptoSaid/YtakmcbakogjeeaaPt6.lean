/- Paths (layer 24): the comparison of challenges; slices.IndexFunc, ContainsFunc with it; no condition. -/
import Derived.Test.YtakmcbakogjeeaaPt5
import Derived.Test.YtakmcbakogjeeaaPtSh
set_option linter.unusedVariables false
set_option linter.unusedSimpArgs false
namespace Go.Proofs.Ytakmcbakogjeeaa.Pt
open Go Go.RowKit Go.Maps Go.Proofs.Ytakmcbakogjeeaa.Rm
open Go.Proofs.YtakmcbakogjeeaaW.PrintWords Go.Proofs.YtakmcbakogjeeaaW.PrintLast Go.Proofs.YtakmcbakogjeeaaW.PrintMore
variable {W W' : World} {b p m n : Nat} {used : Int} {K A B : List Ent} {x x' : Ent}
theorem all_range_int : ∀ (xs ys : List Int), xs.length = ys.length → ((List.range xs.length).all fun i => xs.getD i 0 == ys.getD i 0) = (xs == ys)
  | [], [], _ => rfl
  | x :: xs, y :: ys, h => by
    have ih := all_range_int xs ys (by simpa using h)
    rw [List.length_cons, List.range_succ_eq_map, List.all_cons, List.all_map]
    simp only [List.getD_cons_zero, Function.comp_def, List.getD_cons_succ, ih]
    simp [List.cons_beq_cons]
  | [], _ :: _, h => by simp at h
  | _ :: _, [], h => by simp at h
theorem eql_ints {P : Program} (w : World) (t e : TypeId) (n : Nat) (ht : P.underlying t = some (.array n e)) (he : P.underlying e = some (.int .u8)) (hsz : ∀ w, (sizeOf e).run P w = .ok 1 w)
    (xs ys : List Int) (hx : xs.length = n) (hy : ys.length = n) :
    (binOp .eql t (.agg (xs.map (Value.int .u8)).toArray) (.agg (ys.map (Value.int .u8)).toArray)).run P w = .ok (.bool (xs == ys)) w := by
  rw [run_eql_struct]
  have key : (Op.equalIn (9998 + 2) t (.agg (xs.map (Value.int .u8)).toArray) (.agg (ys.map (Value.int .u8)).toArray)).run P w = .ok (xs == ys) w := by
    rw [← all_range_int xs ys (hx.trans hy.symm), hx, List.range_eq_range', Op.equalIn]
    simp only [Sem.run_bind, run_underlying ht, Result.andThen_ok, hsz, Std.Legacy.Range.forIn_eq_forIn_range', Std.Legacy.Range.size, Nat.sub_zero, Nat.add_sub_cancel, Nat.div_one]
    have hl : ∀ i ∈ List.range' 0 n 1, i < n := fun i hi => by simpa using (List.mem_range'_1.1 hi).2
    generalize List.range' 0 n 1 = l at hl ⊢
    induction l with
    | nil => simp
    | cons i l ih =>
      have hi : i < n := hl i (by simp)
      have px : (part e (xs.map (Value.int .u8)).toArray (i * 1)).run P w = .ok (.int .u8 (xs.getD i 0)) w := by
        simp [part, isAgg, run_underlying he, List.getD, List.getElem?_eq_getElem (show i < xs.length by omega)]
      have py : (part e (ys.map (Value.int .u8)).toArray (i * 1)).run P w = .ok (.int .u8 (ys.getD i 0)) w := by
        simp [part, isAgg, run_underlying he, List.getD, List.getElem?_eq_getElem (show i < ys.length by omega)]
      have pe := run_equalIn_int w (9998) e .u8 .u8 (xs.getD i 0) (ys.getD i 0) he
      simp only [List.forIn_cons, Sem.run_bind, px, py, pe, Result.andThen_ok, List.all_cons]
      cases hb : (xs.getD i 0 == ys.getD i 0)
      · simp
      · simp only [Bool.not_true, Bool.false_eq_true, if_false, Sem.run_pure, Result.andThen_ok, Bool.true_and]
        exact ih fun j hj => hl j (by simp [hj])
  rw [show (10000 : Nat) = 9998 + 2 from rfl, key]
  rfl
theorem sizeOf8 : ∀ w, (Go.sizeOf 5).run Try.prog w = .ok 1 w := fun w => by kernel_rfl
set_option maxRecDepth 100000 in
theorem clo (nb : Nat) (o0 o1 o2 o3 o4 o5 o6 o7 u d0 d1 d2 d3 d4 d5 d6 d7 : Int) (hnw : W.heap[nb]? = some (.cells #[.int .u8 d0, .int .u8 d1, .int .u8 d2, .int .u8 d3, .int .u8 d4, .int .u8 d5, .int .u8 d6, .int .u8 d7] 96 (0, 0))) :
    Calls Try.prog 98 #[.agg #[.int .u8 o0, .int .u8 o1, .int .u8 o2, .int .u8 o3, .int .u8 o4, .int .u8 o5, .int .u8 o6, .int .u8 o7, .int .i64 u], .pointer (some ⟨nb, 0, none⟩)] W fun e w' => e = .returned (.bool ([o0, o1, o2, o3, o4, o5, o6, o7] == [d0, d1, d2, d3, d4, d5, d6, d7])) ∧ Below W.heap.size W w' := by
  have hq := fun w => eql_ints (P := Try.prog) w 96 5 8 Try.underlying96 Try.underlying5 sizeOf8 [o0, o1, o2, o3, o4, o5, o6, o7] [d0, d1, d2, d3, d4, d5, d6, d7] rfl rfl
  simp only [List.map_cons, List.map_nil] at hq
  have HB1 := Aside0.mk (below_alloc (Below.refl _ W) (.cells #[.int .u8 o0, .int .u8 o1, .int .u8 o2, .int .u8 o3, .int .u8 o4, .int .u8 o5, .int .u8 o6, .int .u8 o7, .int .i64 u] 176 (0, 0)))
  have hnw2 := (HB1.out.block nb (Array.getElem?_eq_some_iff.1 hnw).1).trans hnw
  have b0 : (W.alloc (.cells #[.int .u8 o0, .int .u8 o1, .int .u8 o2, .int .u8 o3, .int .u8 o4, .int .u8 o5, .int .u8 o6, .int .u8 o7, .int .i64 u] 176 (0, 0))).cell? ⟨nb, 0, none⟩ = some (.int .u8 d0) := by rw [cell_of_row _ _ _ _ _ _ hnw2]; rfl
  have b1 : (W.alloc (.cells #[.int .u8 o0, .int .u8 o1, .int .u8 o2, .int .u8 o3, .int .u8 o4, .int .u8 o5, .int .u8 o6, .int .u8 o7, .int .i64 u] 176 (0, 0))).cell? ⟨nb, 1, none⟩ = some (.int .u8 d1) := by rw [cell_of_row _ _ _ _ _ _ hnw2]; rfl
  have b2 : (W.alloc (.cells #[.int .u8 o0, .int .u8 o1, .int .u8 o2, .int .u8 o3, .int .u8 o4, .int .u8 o5, .int .u8 o6, .int .u8 o7, .int .i64 u] 176 (0, 0))).cell? ⟨nb, 2, none⟩ = some (.int .u8 d2) := by rw [cell_of_row _ _ _ _ _ _ hnw2]; rfl
  have b3 : (W.alloc (.cells #[.int .u8 o0, .int .u8 o1, .int .u8 o2, .int .u8 o3, .int .u8 o4, .int .u8 o5, .int .u8 o6, .int .u8 o7, .int .i64 u] 176 (0, 0))).cell? ⟨nb, 3, none⟩ = some (.int .u8 d3) := by rw [cell_of_row _ _ _ _ _ _ hnw2]; rfl
  have b4 : (W.alloc (.cells #[.int .u8 o0, .int .u8 o1, .int .u8 o2, .int .u8 o3, .int .u8 o4, .int .u8 o5, .int .u8 o6, .int .u8 o7, .int .i64 u] 176 (0, 0))).cell? ⟨nb, 4, none⟩ = some (.int .u8 d4) := by rw [cell_of_row _ _ _ _ _ _ hnw2]; rfl
  have b5 : (W.alloc (.cells #[.int .u8 o0, .int .u8 o1, .int .u8 o2, .int .u8 o3, .int .u8 o4, .int .u8 o5, .int .u8 o6, .int .u8 o7, .int .i64 u] 176 (0, 0))).cell? ⟨nb, 5, none⟩ = some (.int .u8 d5) := by rw [cell_of_row _ _ _ _ _ _ hnw2]; rfl
  have b6 : (W.alloc (.cells #[.int .u8 o0, .int .u8 o1, .int .u8 o2, .int .u8 o3, .int .u8 o4, .int .u8 o5, .int .u8 o6, .int .u8 o7, .int .i64 u] 176 (0, 0))).cell? ⟨nb, 6, none⟩ = some (.int .u8 d6) := by rw [cell_of_row _ _ _ _ _ _ hnw2]; rfl
  have b7 : (W.alloc (.cells #[.int .u8 o0, .int .u8 o1, .int .u8 o2, .int .u8 o3, .int .u8 o4, .int .u8 o5, .int .u8 o6, .int .u8 o7, .int .i64 u] 176 (0, 0))).cell? ⟨nb, 7, none⟩ = some (.int .u8 d7) := by rw [cell_of_row _ _ _ _ _ _ hnw2]; rfl
  clear hnw hnw2
  generalize ([o0, o1, o2, o3, o4, o5, o6, o7] == [d0, d1, d2, d3, d4, d5, d6, d7]) = r at *
  go_enter Try.func98, Try.ntmps98
  go_wp2_with fail
  go_ret
  exact ⟨rfl, HB1.out⟩
end Go.Proofs.Ytakmcbakogjeeaa.Pt
