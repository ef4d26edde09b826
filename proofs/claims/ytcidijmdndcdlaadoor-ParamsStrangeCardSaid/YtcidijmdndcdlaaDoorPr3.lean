/- Parameters (layer 3): Check; no condition. -/
import Derived.Test.YtcidijmdndcdlaaDoorPr2
import Derived.Laws.StructEq
set_option linter.unusedVariables false
set_option linter.unusedSimpArgs false
namespace Go.Proofs.YtcidijmdndcdlaaDoor.Pr
open Go Go.RowKit Go.Proofs.YtcidijmdndcdlaaDoor.Pm
open Go.Proofs.YtcidijmdndcdlaaDoorW.PrintWords Go.Proofs.YtcidijmdndcdlaaDoorW.PrintLast Go.Proofs.YtcidijmdndcdlaaDoorW.PrintMore
variable {W W' : World} {g b : Nat} {p : Pm} {vo vf va : Value}
theorem all_range_int : ∀ (xs ys : List Int), xs.length = ys.length → ((List.range xs.length).all fun i => xs.getD i 0 == ys.getD i 0) = (xs == ys)
  | [], [], _ => rfl
  | x :: xs, y :: ys, h => by
    have ih := all_range_int xs ys (by simpa using h)
    rw [List.length_cons, List.range_succ_eq_map, List.all_cons, List.all_map]
    simp only [List.getD_cons_zero, Function.comp_def, List.getD_cons_succ, ih]
    simp [List.cons_beq_cons]
  | [], _ :: _, h => by simp at h
  | _ :: _, [], h => by simp at h
theorem equal_ints {P : Program} (w : World) (d : Nat) (t e : TypeId) (n : Nat) (ht : P.underlying t = some (.array n e)) (he : P.underlying e = some (.int .u8)) (hsz : ∀ w, (sizeOf e).run P w = .ok 1 w)
    (xs ys : List Int) (hx : xs.length = n) (hy : ys.length = n) :
    (Op.equalIn (d + 2) t (.agg (xs.map (Value.int .u8)).toArray) (.agg (ys.map (Value.int .u8)).toArray)).run P w = .ok (xs == ys) w := by
    rw [← all_range_int xs ys (hx.trans hy.symm), hx, List.range_eq_range', Op.equalIn]
    simp only [Sem.run_bind, run_underlying ht, Result.andThen_ok, hsz, Std.Legacy.Range.forIn_eq_forIn_range', Std.Legacy.Range.size, Nat.sub_zero, Nat.add_sub_cancel, Nat.div_one]
    have hl : ∀ i ∈ List.range' 0 n 1, i < n := fun i hi => by simpa using (List.mem_range'_1.1 hi).2
    generalize List.range' 0 n 1 = l at hl ⊢
    induction l with
    | nil => simp
    | cons i l ih =>
      have hi : i < n := hl i (by simp)
      have px : (part e (xs.map (Value.int .u8)).toArray (i * 1)).run P w = .ok (.int .u8 (xs.getD i 0)) w := by
        simp [part, isAgg, run_underlying he, List.getD, List.getElem?_eq_getElem (show i < xs.length by omega)]
      have py : (part e (ys.map (Value.int .u8)).toArray (i * 1)).run P w = .ok (.int .u8 (ys.getD i 0)) w := by
        simp [part, isAgg, run_underlying he, List.getD, List.getElem?_eq_getElem (show i < ys.length by omega)]
      have pe := run_equalIn_int w d e .u8 .u8 (xs.getD i 0) (ys.getD i 0) he
      simp only [List.forIn_cons, Sem.run_bind, px, py, pe, Result.andThen_ok, List.all_cons]
      cases hb : (xs.getD i 0 == ys.getD i 0)
      · simp
      · simp only [Bool.not_true, Bool.false_eq_true, if_false, Sem.run_pure, Result.andThen_ok, Bool.true_and]
        exact ih fun j hj => hl j (by simp [hj])
theorem sizeOf8 : ∀ w, (Go.sizeOf 5).run Tryd.prog w = .ok 1 w := fun w => by kernel_rfl
/-- The comparison of two resets. -/
theorem neq_reset (w : World) (xs ys : List Int) (hx : xs.length = 16) (hy : ys.length = 16) :
    (binOp .neq 23 (.agg (xs.map (Value.int .u8)).toArray) (.agg (ys.map (Value.int .u8)).toArray)).run Tryd.prog w = .ok (.bool (decide (xs ≠ ys))) w := by
  rw [run_neq_struct, show (10000 : Nat) = 9998 + 2 from rfl, equal_ints w 9998 23 5 16 Tryd.underlying23 Tryd.underlying5 sizeOf8 xs ys hx hy]
  simp only [Result.andThen_ok]
  congr 2
  by_cases h : xs = ys <;> simp [h]
/-- A guarded operation that is wanted and yields a value. -/
theorem wpList_wanted_run {P : Program} {ops : Array Oper} {rest : List Oper} {o : Oper} {a : Act} {w : World} {Q : Exit → Act → World → Prop} {N : Nat} (hw : Region.wanted o (yielded ops a.tmps) = true) (hd : o.dst = some N)
    (t : TypeId) (x : Operand) (ho : o.op = .load t x) {u v : Value} (hx : a.eval x = u) (hr : (Instr.loadAt t u).run P w = .ok v w) (h : wpList P ops Q rest (a.put (some N) v) w) : wpList P ops Q (o :: rest) a w := by
  refine wpList_step fun K hK => ?_
  simp only [hw, if_true]
  unfold Oper.wp execOp
  simp only [ho, hx, Sem.run_bind, hr, Result.andThen_ok, Sem.run_pure]
  show K (a.put o.dst v) w
  rw [hd]
  exact hK _ _ h
theorem gate_ld {P : Program} {ops : Array Oper} {rest : List Oper} {o : Oper} {a : Act} {w : World} {Q : Exit → Act → World → Prop} {t : TypeId} {p : Operand} (_ho : o.op = .load t p) (h : wpList P ops Q (o :: rest) a w) : wpList P ops Q (o :: rest) a w := h
theorem gate_st {P : Program} {ops : Array Oper} {rest : List Oper} {o : Oper} {a : Act} {w : World} {Q : Exit → Act → World → Prop} {t : TypeId} {p v : Operand} (_ho : o.op = .store t p v) (h : wpList P ops Q (o :: rest) a w) : wpList P ops Q (o :: rest) a w := h
theorem reset_load (h : PmAt W g p vo vf va) (hs : Sz p) : (Instr.loadAt 23 (.pointer (some ⟨g, 17, none⟩))).run Tryd.prog W = .ok (.agg (p.reset.map (Value.int .u8)).toArray) W := by
  have hr : W.rangeAt g 17 (p.reset.map (Value.int .u8)) := by
    intro j v hv
    rw [List.getElem?_map, Option.map_eq_some_iff] at hv
    obtain ⟨x, hx, rfl⟩ := hv
    rw [cell_of_row W g _ _ _ _ h]
    exact (row_at hs vo vf va).2.2.2.2.2.2.1 j x hx
  have hl : (p.reset.map (Value.int .u8)).length = 16 := by rw [List.length_map, hs.r]
  simp only [Instr.loadAt, Instr.sureAddr, Sem.run_bind, Sem.run_pure, Result.andThen_ok]
  exact run_loadVar_mid W g 17 23 _ _ hr Tryd.underlying23 rfl (by rw [hl]; kernel_rfl)
def codeOf (p : Pm) (server : Bool) : Int := if p.check server then 0 else 2
theorem code_parts {p : Pm} {server : Bool} {o l b1 b2 : Bool} (h1 : p.odd = o) (h2 : p.long = l) (h3 : p.bad1 server = b1) (h4 : p.bad2 = b2) : codeOf p server = if o || l || b1 || b2 then 2 else 0 := by
  unfold codeOf Pm.check
  rw [h1, h2, h3, h4]
  cases o <;> cases l <;> cases b1 <;> cases b2 <;> rfl
set_option maxRecDepth 100000 in
set_option maxHeartbeats 3200000 in
theorem check_s (hs : Sz p) (server : Bool) (Ao Af Aa : Option Addr) (co cf ca : Nat) :
    Calls Tryd.prog 13 #[.agg (pmRow p (.slice Ao p.orig.length co) (.slice Af p.first.length cf) (.slice Aa p.again.length ca)), .bool server] W fun e w' =>
      e = .returned (.int .i64 (codeOf p server)) ∧ Below W.heap.size W w' := by
  have HS := Aside0.mk hs
  have HP : Aside0 (PmAt (W.alloc (.cells (pmRow p (.slice Ao p.orig.length co) (.slice Af p.first.length cf) (.slice Aa p.again.length ca)) 25 (0, 0))) W.heap.size p (.slice Ao p.orig.length co) (.slice Af p.first.length cf) (.slice Aa p.again.length ca)) := ⟨heap_alloc_new W _⟩
  have HB := Aside0.mk (Bl.alloc (Below.refl _ W) (.cells (pmRow p (.slice Ao p.orig.length co) (.slice Af p.first.length cf) (.slice Aa p.again.length ca)) 25 (0, 0)))
  obtain ⟨rl, hrl⟩ : ∃ rl, (decide (p.orig.length > 20) || decide (p.first.length > 20) || decide (p.again.length > 20)) = rl := ⟨_, rfl⟩
  have HL := Aside0.mk hrl
  obtain ⟨ro, hro⟩ : ∃ ro, p.odd = ro := ⟨_, rfl⟩
  have HO := Aside0.mk hro
  have HC : Aside0 (∀ b1 b2, p.bad1 server = b1 → p.bad2 = b2 → codeOf p server = if ro || rl || b1 || b2 then 2 else 0) := ⟨fun b1 b2 h3 h4 => code_parts hro hrl h3 h4⟩
  obtain ⟨R, hR⟩ : ∃ R, codeOf p server = R := ⟨_, rfl⟩
  rw [hR]
  rw [hR] at HC
  clear hs hrl hro hR
  cases ro with
  | true =>
    obtain rfl : R = 2 := by have := HC.out _ _ rfl rfl; simpa using this
    go_enter Tryd.func13, Tryd.ntmps13
    go_wp2_with (first
      | (go_at_call 19; (with_reducible refine (fields_s _).mono ?_); rintro e w1 ⟨b, rfl, hf, hlt, hb⟩; have HF := Aside0.mk hf; have HP1 := Aside0.mk (HP.out.below hb HP.out.lt); have HB1 := Aside0.mk (Bl.then HB.out hb); clear hf hb HP HB)
      | (go_at_call 31; (with_reducible refine (cont_fld HP1.out HF.out HS.out).mono ?_); rw [HO.out]; rintro e w2 ⟨rfl, hb⟩; have HP2 := Aside0.mk (HP1.out.below hb HP1.out.lt); have HB2 := Aside0.mk (Bl.then HB1.out hb); clear hb HB1))
    go_ret
    exact ⟨rfl, HB2.out⟩
  | false =>
    have EN : ∃ rz, decide (p.reset ≠ zeros) = rz ∧ ∀ w, (binOp .neq 23 (.agg (p.reset.map (Value.int .u8)).toArray) (.agg #[.int .u8 0, .int .u8 0, .int .u8 0, .int .u8 0, .int .u8 0, .int .u8 0, .int .u8 0, .int .u8 0, .int .u8 0, .int .u8 0, .int .u8 0, .int .u8 0, .int .u8 0, .int .u8 0, .int .u8 0, .int .u8 0])).run Tryd.prog w = .ok (.bool rz) w := ⟨_, rfl, fun w => neq_reset w p.reset zeros HS.out.r rfl⟩
    obtain ⟨rz, hz, en⟩ := EN
    have HZ := Aside0.mk hz
    clear hz
    cases rl with
    | true =>
      obtain rfl : R = 2 := (HC.out _ _ (rfl) (rfl)).trans rfl
      go_enter Tryd.func13, Tryd.ntmps13
      go_wp2_with (first
      | (go_at_call 19; (with_reducible refine (fields_s _).mono ?_); rintro e w1 ⟨b, rfl, hf, hlt, hb⟩; have HF := Aside0.mk hf; have HP1 := Aside0.mk (HP.out.below hb HP.out.lt); have HB1 := Aside0.mk (Bl.then HB.out hb); clear hf hb HP HB)
      | (go_at_call 31; (with_reducible refine (cont_fld HP1.out HF.out HS.out).mono ?_); rw [HO.out]; rintro e w2 ⟨rfl, hb⟩; have HP2 := Aside0.mk (HP1.out.below hb HP1.out.lt); have HB2 := Aside0.mk (Bl.then HB1.out hb); clear hb HB1 HF HP1; obtain ⟨_, q13, q14, q15, _, _⟩ := HP2.out.cells HS.out; have HB3 := Aside0.mk (Bl.alloc HB2.out (.cells #[.slice Ao p.orig.length co, .slice Af p.first.length cf, .slice Aa p.again.length ca] 22 (0, 0))); have HB4 := Aside0.mk (Bl.alloc (Below.refl _ w2) (.cells #[.slice Ao p.orig.length co, .slice Af p.first.length cf, .slice Aa p.again.length ca] 22 (0, 0))); have HP3 := Aside0.mk (HP2.out.below HB4.out HP2.out.lt); have HL3 := Aside0.mk (cont_long (W := w2.alloc (.cells #[.slice Ao p.orig.length co, .slice Af p.first.length cf, .slice Aa p.again.length ca] 22 (0, 0))) (b := w2.heap.size) Ao Af Aa p.orig.length p.first.length p.again.length co cf ca (heap_alloc_new w2 _)); rw [HL.out] at HL3; obtain ⟨_, k13, k14, k15, k16, k33⟩ := HP3.out.cells HS.out; )
      | (go_at_call 32; (with_reducible refine HL3.out.mono ?_); rintro e w3 ⟨rfl, rfl⟩))
      go_ret
      exact ⟨rfl, HB3.out⟩
    | false =>
      obtain ⟨ra, hra⟩ : ∃ ra, p.hasAgain = ra := ⟨_, rfl⟩
      obtain ⟨rr, hrr⟩ : ∃ rr, p.hasReset = rr := ⟨_, rfl⟩
      have HA := Aside0.mk hra
      have HR := Aside0.mk hrr
      clear hra hrr
      cases server with
      | false =>
        by_cases h0 : p.orig.length > 0
        · have hq : decide (p.orig.length > 0) = true := decide_eq_true h0
          obtain rfl : R = 2 := (HC.out true _ (by unfold Pm.bad1; rw [hq]; rfl) (rfl)).trans rfl
          go_enter Tryd.func13, Tryd.ntmps13
          go_wp2_with (first
      | (go_at_call 19; (with_reducible refine (fields_s _).mono ?_); rintro e w1 ⟨b, rfl, hf, hlt, hb⟩; have HF := Aside0.mk hf; have HP1 := Aside0.mk (HP.out.below hb HP.out.lt); have HB1 := Aside0.mk (Bl.then HB.out hb); clear hf hb HP HB)
      | (go_at_call 31; (with_reducible refine (cont_fld HP1.out HF.out HS.out).mono ?_); rw [HO.out]; rintro e w2 ⟨rfl, hb⟩; have HP2 := Aside0.mk (HP1.out.below hb HP1.out.lt); have HB2 := Aside0.mk (Bl.then HB1.out hb); clear hb HB1 HF HP1; obtain ⟨_, q13, q14, q15, _, _⟩ := HP2.out.cells HS.out; have HB3 := Aside0.mk (Bl.alloc HB2.out (.cells #[.slice Ao p.orig.length co, .slice Af p.first.length cf, .slice Aa p.again.length ca] 22 (0, 0))); have HB4 := Aside0.mk (Bl.alloc (Below.refl _ w2) (.cells #[.slice Ao p.orig.length co, .slice Af p.first.length cf, .slice Aa p.again.length ca] 22 (0, 0))); have HP3 := Aside0.mk (HP2.out.below HB4.out HP2.out.lt); have HL3 := Aside0.mk (cont_long (W := w2.alloc (.cells #[.slice Ao p.orig.length co, .slice Af p.first.length cf, .slice Aa p.again.length ca] 22 (0, 0))) (b := w2.heap.size) Ao Af Aa p.orig.length p.first.length p.again.length co cf ca (heap_alloc_new w2 _)); rw [HL.out] at HL3; obtain ⟨_, k13, k14, k15, k16, k33⟩ := HP3.out.cells HS.out; rw [HA.out] at k16; rw [HR.out] at k33)
      | (go_at_call 32; (with_reducible refine HL3.out.mono ?_); rintro e w3 ⟨rfl, rfl⟩)
      | ((with_reducible refine gate_ld (t := 23) rfl ?_); refine wpList_wanted_run rfl rfl 23 (.tmp 54) rfl rfl (reset_load HP3.out HS.out) ?_))
          go_ret
          exact ⟨rfl, HB3.out⟩
        · have hq : decide (p.orig.length > 0) = false := decide_eq_false h0
          cases ra with
          | true =>
            obtain rfl : R = 2 := (HC.out true _ (by unfold Pm.bad1; rw [hq, HA.out]; rfl) (rfl)).trans rfl
            go_enter Tryd.func13, Tryd.ntmps13
            go_wp2_with (first
      | (go_at_call 19; (with_reducible refine (fields_s _).mono ?_); rintro e w1 ⟨b, rfl, hf, hlt, hb⟩; have HF := Aside0.mk hf; have HP1 := Aside0.mk (HP.out.below hb HP.out.lt); have HB1 := Aside0.mk (Bl.then HB.out hb); clear hf hb HP HB)
      | (go_at_call 31; (with_reducible refine (cont_fld HP1.out HF.out HS.out).mono ?_); rw [HO.out]; rintro e w2 ⟨rfl, hb⟩; have HP2 := Aside0.mk (HP1.out.below hb HP1.out.lt); have HB2 := Aside0.mk (Bl.then HB1.out hb); clear hb HB1 HF HP1; obtain ⟨_, q13, q14, q15, _, _⟩ := HP2.out.cells HS.out; have HB3 := Aside0.mk (Bl.alloc HB2.out (.cells #[.slice Ao p.orig.length co, .slice Af p.first.length cf, .slice Aa p.again.length ca] 22 (0, 0))); have HB4 := Aside0.mk (Bl.alloc (Below.refl _ w2) (.cells #[.slice Ao p.orig.length co, .slice Af p.first.length cf, .slice Aa p.again.length ca] 22 (0, 0))); have HP3 := Aside0.mk (HP2.out.below HB4.out HP2.out.lt); have HL3 := Aside0.mk (cont_long (W := w2.alloc (.cells #[.slice Ao p.orig.length co, .slice Af p.first.length cf, .slice Aa p.again.length ca] 22 (0, 0))) (b := w2.heap.size) Ao Af Aa p.orig.length p.first.length p.again.length co cf ca (heap_alloc_new w2 _)); rw [HL.out] at HL3; obtain ⟨_, k13, k14, k15, k16, k33⟩ := HP3.out.cells HS.out; rw [HA.out] at k16; rw [HR.out] at k33)
      | (go_at_call 32; (with_reducible refine HL3.out.mono ?_); rintro e w3 ⟨rfl, rfl⟩)
      | ((with_reducible refine gate_ld (t := 23) rfl ?_); refine wpList_wanted_run rfl rfl 23 (.tmp 54) rfl rfl (reset_load HP3.out HS.out) ?_))
            go_ret
            exact ⟨rfl, HB3.out⟩
          | false =>
            cases rr with
            | true =>
              obtain rfl : R = 2 := (HC.out true _ (by unfold Pm.bad1; rw [hq, HA.out, HR.out]; rfl) (rfl)).trans rfl
              go_enter Tryd.func13, Tryd.ntmps13
              go_wp2_with (first
      | (go_at_call 19; (with_reducible refine (fields_s _).mono ?_); rintro e w1 ⟨b, rfl, hf, hlt, hb⟩; have HF := Aside0.mk hf; have HP1 := Aside0.mk (HP.out.below hb HP.out.lt); have HB1 := Aside0.mk (Bl.then HB.out hb); clear hf hb HP HB)
      | (go_at_call 31; (with_reducible refine (cont_fld HP1.out HF.out HS.out).mono ?_); rw [HO.out]; rintro e w2 ⟨rfl, hb⟩; have HP2 := Aside0.mk (HP1.out.below hb HP1.out.lt); have HB2 := Aside0.mk (Bl.then HB1.out hb); clear hb HB1 HF HP1; obtain ⟨_, q13, q14, q15, _, _⟩ := HP2.out.cells HS.out; have HB3 := Aside0.mk (Bl.alloc HB2.out (.cells #[.slice Ao p.orig.length co, .slice Af p.first.length cf, .slice Aa p.again.length ca] 22 (0, 0))); have HB4 := Aside0.mk (Bl.alloc (Below.refl _ w2) (.cells #[.slice Ao p.orig.length co, .slice Af p.first.length cf, .slice Aa p.again.length ca] 22 (0, 0))); have HP3 := Aside0.mk (HP2.out.below HB4.out HP2.out.lt); have HL3 := Aside0.mk (cont_long (W := w2.alloc (.cells #[.slice Ao p.orig.length co, .slice Af p.first.length cf, .slice Aa p.again.length ca] 22 (0, 0))) (b := w2.heap.size) Ao Af Aa p.orig.length p.first.length p.again.length co cf ca (heap_alloc_new w2 _)); rw [HL.out] at HL3; obtain ⟨_, k13, k14, k15, k16, k33⟩ := HP3.out.cells HS.out; rw [HA.out] at k16; rw [HR.out] at k33)
      | (go_at_call 32; (with_reducible refine HL3.out.mono ?_); rintro e w3 ⟨rfl, rfl⟩)
      | ((with_reducible refine gate_ld (t := 23) rfl ?_); refine wpList_wanted_run rfl rfl 23 (.tmp 54) rfl rfl (reset_load HP3.out HS.out) ?_))
              go_ret
              exact ⟨rfl, HB3.out⟩
            | false =>
              by_cases h1 : p.again.length > 0
              · have hw : decide (p.again.length > 0) = true := decide_eq_true h1
                obtain rfl : R = 2 := (HC.out false true (by unfold Pm.bad1; rw [hq, HA.out, HR.out]; rfl) (by unfold Pm.bad2; rw [hw, HA.out, HR.out]; rfl)).trans rfl
                go_enter Tryd.func13, Tryd.ntmps13
                go_wp2_with (first
      | (go_at_call 19; (with_reducible refine (fields_s _).mono ?_); rintro e w1 ⟨b, rfl, hf, hlt, hb⟩; have HF := Aside0.mk hf; have HP1 := Aside0.mk (HP.out.below hb HP.out.lt); have HB1 := Aside0.mk (Bl.then HB.out hb); clear hf hb HP HB)
      | (go_at_call 31; (with_reducible refine (cont_fld HP1.out HF.out HS.out).mono ?_); rw [HO.out]; rintro e w2 ⟨rfl, hb⟩; have HP2 := Aside0.mk (HP1.out.below hb HP1.out.lt); have HB2 := Aside0.mk (Bl.then HB1.out hb); clear hb HB1 HF HP1; obtain ⟨_, q13, q14, q15, _, _⟩ := HP2.out.cells HS.out; have HB3 := Aside0.mk (Bl.alloc HB2.out (.cells #[.slice Ao p.orig.length co, .slice Af p.first.length cf, .slice Aa p.again.length ca] 22 (0, 0))); have HB4 := Aside0.mk (Bl.alloc (Below.refl _ w2) (.cells #[.slice Ao p.orig.length co, .slice Af p.first.length cf, .slice Aa p.again.length ca] 22 (0, 0))); have HP3 := Aside0.mk (HP2.out.below HB4.out HP2.out.lt); have HL3 := Aside0.mk (cont_long (W := w2.alloc (.cells #[.slice Ao p.orig.length co, .slice Af p.first.length cf, .slice Aa p.again.length ca] 22 (0, 0))) (b := w2.heap.size) Ao Af Aa p.orig.length p.first.length p.again.length co cf ca (heap_alloc_new w2 _)); rw [HL.out] at HL3; obtain ⟨_, k13, k14, k15, k16, k33⟩ := HP3.out.cells HS.out; rw [HA.out] at k16; rw [HR.out] at k33)
      | (go_at_call 32; (with_reducible refine HL3.out.mono ?_); rintro e w3 ⟨rfl, rfl⟩)
      | ((with_reducible refine gate_ld (t := 23) rfl ?_); refine wpList_wanted_run rfl rfl 23 (.tmp 54) rfl rfl (reset_load HP3.out HS.out) ?_))
                go_ret
                exact ⟨rfl, HB3.out⟩
              · have hw : decide (p.again.length > 0) = false := decide_eq_false h1
                cases rz with
                | true =>
                  obtain rfl : R = 2 := (HC.out false true (by unfold Pm.bad1; rw [hq, HA.out, HR.out]; rfl) (by unfold Pm.bad2; rw [hw, HA.out, HR.out, HZ.out]; rfl)).trans rfl
                  go_enter Tryd.func13, Tryd.ntmps13
                  go_wp2_with (first
      | (go_at_call 19; (with_reducible refine (fields_s _).mono ?_); rintro e w1 ⟨b, rfl, hf, hlt, hb⟩; have HF := Aside0.mk hf; have HP1 := Aside0.mk (HP.out.below hb HP.out.lt); have HB1 := Aside0.mk (Bl.then HB.out hb); clear hf hb HP HB)
      | (go_at_call 31; (with_reducible refine (cont_fld HP1.out HF.out HS.out).mono ?_); rw [HO.out]; rintro e w2 ⟨rfl, hb⟩; have HP2 := Aside0.mk (HP1.out.below hb HP1.out.lt); have HB2 := Aside0.mk (Bl.then HB1.out hb); clear hb HB1 HF HP1; obtain ⟨_, q13, q14, q15, _, _⟩ := HP2.out.cells HS.out; have HB3 := Aside0.mk (Bl.alloc HB2.out (.cells #[.slice Ao p.orig.length co, .slice Af p.first.length cf, .slice Aa p.again.length ca] 22 (0, 0))); have HB4 := Aside0.mk (Bl.alloc (Below.refl _ w2) (.cells #[.slice Ao p.orig.length co, .slice Af p.first.length cf, .slice Aa p.again.length ca] 22 (0, 0))); have HP3 := Aside0.mk (HP2.out.below HB4.out HP2.out.lt); have HL3 := Aside0.mk (cont_long (W := w2.alloc (.cells #[.slice Ao p.orig.length co, .slice Af p.first.length cf, .slice Aa p.again.length ca] 22 (0, 0))) (b := w2.heap.size) Ao Af Aa p.orig.length p.first.length p.again.length co cf ca (heap_alloc_new w2 _)); rw [HL.out] at HL3; obtain ⟨_, k13, k14, k15, k16, k33⟩ := HP3.out.cells HS.out; rw [HA.out] at k16; rw [HR.out] at k33)
      | (go_at_call 32; (with_reducible refine HL3.out.mono ?_); rintro e w3 ⟨rfl, rfl⟩)
      | ((with_reducible refine gate_ld (t := 23) rfl ?_); refine wpList_wanted_run rfl rfl 23 (.tmp 54) rfl rfl (reset_load HP3.out HS.out) ?_))
                  go_ret
                  exact ⟨rfl, HB3.out⟩
                | false =>
                  obtain rfl : R = 0 := (HC.out false false (by unfold Pm.bad1; rw [hq, HA.out, HR.out]; rfl) (by unfold Pm.bad2; rw [hw, HA.out, HR.out, HZ.out]; rfl)).trans rfl
                  go_enter Tryd.func13, Tryd.ntmps13
                  go_wp2_with (first
      | (go_at_call 19; (with_reducible refine (fields_s _).mono ?_); rintro e w1 ⟨b, rfl, hf, hlt, hb⟩; have HF := Aside0.mk hf; have HP1 := Aside0.mk (HP.out.below hb HP.out.lt); have HB1 := Aside0.mk (Bl.then HB.out hb); clear hf hb HP HB)
      | (go_at_call 31; (with_reducible refine (cont_fld HP1.out HF.out HS.out).mono ?_); rw [HO.out]; rintro e w2 ⟨rfl, hb⟩; have HP2 := Aside0.mk (HP1.out.below hb HP1.out.lt); have HB2 := Aside0.mk (Bl.then HB1.out hb); clear hb HB1 HF HP1; obtain ⟨_, q13, q14, q15, _, _⟩ := HP2.out.cells HS.out; have HB3 := Aside0.mk (Bl.alloc HB2.out (.cells #[.slice Ao p.orig.length co, .slice Af p.first.length cf, .slice Aa p.again.length ca] 22 (0, 0))); have HB4 := Aside0.mk (Bl.alloc (Below.refl _ w2) (.cells #[.slice Ao p.orig.length co, .slice Af p.first.length cf, .slice Aa p.again.length ca] 22 (0, 0))); have HP3 := Aside0.mk (HP2.out.below HB4.out HP2.out.lt); have HL3 := Aside0.mk (cont_long (W := w2.alloc (.cells #[.slice Ao p.orig.length co, .slice Af p.first.length cf, .slice Aa p.again.length ca] 22 (0, 0))) (b := w2.heap.size) Ao Af Aa p.orig.length p.first.length p.again.length co cf ca (heap_alloc_new w2 _)); rw [HL.out] at HL3; obtain ⟨_, k13, k14, k15, k16, k33⟩ := HP3.out.cells HS.out; rw [HA.out] at k16; rw [HR.out] at k33)
      | (go_at_call 32; (with_reducible refine HL3.out.mono ?_); rintro e w3 ⟨rfl, rfl⟩)
      | ((with_reducible refine gate_ld (t := 23) rfl ?_); refine wpList_wanted_run rfl rfl 23 (.tmp 54) rfl rfl (reset_load HP3.out HS.out) ?_))
                  go_ret
                  exact ⟨rfl, HB3.out⟩
      | true =>
        cases ra with
        | false =>
          by_cases h1 : p.again.length > 0
          · have hw : decide (p.again.length > 0) = true := decide_eq_true h1
            obtain rfl : R = 2 := (HC.out false true (by unfold Pm.bad1; rfl) (by unfold Pm.bad2; rw [hw, HA.out]; rfl)).trans rfl
            go_enter Tryd.func13, Tryd.ntmps13
            go_wp2_with (first
      | (go_at_call 19; (with_reducible refine (fields_s _).mono ?_); rintro e w1 ⟨b, rfl, hf, hlt, hb⟩; have HF := Aside0.mk hf; have HP1 := Aside0.mk (HP.out.below hb HP.out.lt); have HB1 := Aside0.mk (Bl.then HB.out hb); clear hf hb HP HB)
      | (go_at_call 31; (with_reducible refine (cont_fld HP1.out HF.out HS.out).mono ?_); rw [HO.out]; rintro e w2 ⟨rfl, hb⟩; have HP2 := Aside0.mk (HP1.out.below hb HP1.out.lt); have HB2 := Aside0.mk (Bl.then HB1.out hb); clear hb HB1 HF HP1; obtain ⟨_, q13, q14, q15, _, _⟩ := HP2.out.cells HS.out; have HB3 := Aside0.mk (Bl.alloc HB2.out (.cells #[.slice Ao p.orig.length co, .slice Af p.first.length cf, .slice Aa p.again.length ca] 22 (0, 0))); have HB4 := Aside0.mk (Bl.alloc (Below.refl _ w2) (.cells #[.slice Ao p.orig.length co, .slice Af p.first.length cf, .slice Aa p.again.length ca] 22 (0, 0))); have HP3 := Aside0.mk (HP2.out.below HB4.out HP2.out.lt); have HL3 := Aside0.mk (cont_long (W := w2.alloc (.cells #[.slice Ao p.orig.length co, .slice Af p.first.length cf, .slice Aa p.again.length ca] 22 (0, 0))) (b := w2.heap.size) Ao Af Aa p.orig.length p.first.length p.again.length co cf ca (heap_alloc_new w2 _)); rw [HL.out] at HL3; obtain ⟨_, k13, k14, k15, k16, k33⟩ := HP3.out.cells HS.out; rw [HA.out] at k16; rw [HR.out] at k33)
      | (go_at_call 32; (with_reducible refine HL3.out.mono ?_); rintro e w3 ⟨rfl, rfl⟩)
      | ((with_reducible refine gate_ld (t := 23) rfl ?_); refine wpList_wanted_run rfl rfl 23 (.tmp 54) rfl rfl (reset_load HP3.out HS.out) ?_))
            go_ret
            exact ⟨rfl, HB3.out⟩
          · have hw : decide (p.again.length > 0) = false := decide_eq_false h1
            cases rr with
            | true =>
              obtain rfl : R = 0 := (HC.out false false (by unfold Pm.bad1; rfl) (by unfold Pm.bad2; rw [hw, HA.out, HR.out]; rfl)).trans rfl
              go_enter Tryd.func13, Tryd.ntmps13
              go_wp2_with (first
      | (go_at_call 19; (with_reducible refine (fields_s _).mono ?_); rintro e w1 ⟨b, rfl, hf, hlt, hb⟩; have HF := Aside0.mk hf; have HP1 := Aside0.mk (HP.out.below hb HP.out.lt); have HB1 := Aside0.mk (Bl.then HB.out hb); clear hf hb HP HB)
      | (go_at_call 31; (with_reducible refine (cont_fld HP1.out HF.out HS.out).mono ?_); rw [HO.out]; rintro e w2 ⟨rfl, hb⟩; have HP2 := Aside0.mk (HP1.out.below hb HP1.out.lt); have HB2 := Aside0.mk (Bl.then HB1.out hb); clear hb HB1 HF HP1; obtain ⟨_, q13, q14, q15, _, _⟩ := HP2.out.cells HS.out; have HB3 := Aside0.mk (Bl.alloc HB2.out (.cells #[.slice Ao p.orig.length co, .slice Af p.first.length cf, .slice Aa p.again.length ca] 22 (0, 0))); have HB4 := Aside0.mk (Bl.alloc (Below.refl _ w2) (.cells #[.slice Ao p.orig.length co, .slice Af p.first.length cf, .slice Aa p.again.length ca] 22 (0, 0))); have HP3 := Aside0.mk (HP2.out.below HB4.out HP2.out.lt); have HL3 := Aside0.mk (cont_long (W := w2.alloc (.cells #[.slice Ao p.orig.length co, .slice Af p.first.length cf, .slice Aa p.again.length ca] 22 (0, 0))) (b := w2.heap.size) Ao Af Aa p.orig.length p.first.length p.again.length co cf ca (heap_alloc_new w2 _)); rw [HL.out] at HL3; obtain ⟨_, k13, k14, k15, k16, k33⟩ := HP3.out.cells HS.out; rw [HA.out] at k16; rw [HR.out] at k33)
      | (go_at_call 32; (with_reducible refine HL3.out.mono ?_); rintro e w3 ⟨rfl, rfl⟩)
      | ((with_reducible refine gate_ld (t := 23) rfl ?_); refine wpList_wanted_run rfl rfl 23 (.tmp 54) rfl rfl (reset_load HP3.out HS.out) ?_))
              go_ret
              exact ⟨rfl, HB3.out⟩
            | false =>
              cases rz with
              | true =>
                obtain rfl : R = 2 := (HC.out false true (by unfold Pm.bad1; rfl) (by unfold Pm.bad2; rw [hw, HA.out, HR.out, HZ.out]; rfl)).trans rfl
                go_enter Tryd.func13, Tryd.ntmps13
                go_wp2_with (first
      | (go_at_call 19; (with_reducible refine (fields_s _).mono ?_); rintro e w1 ⟨b, rfl, hf, hlt, hb⟩; have HF := Aside0.mk hf; have HP1 := Aside0.mk (HP.out.below hb HP.out.lt); have HB1 := Aside0.mk (Bl.then HB.out hb); clear hf hb HP HB)
      | (go_at_call 31; (with_reducible refine (cont_fld HP1.out HF.out HS.out).mono ?_); rw [HO.out]; rintro e w2 ⟨rfl, hb⟩; have HP2 := Aside0.mk (HP1.out.below hb HP1.out.lt); have HB2 := Aside0.mk (Bl.then HB1.out hb); clear hb HB1 HF HP1; obtain ⟨_, q13, q14, q15, _, _⟩ := HP2.out.cells HS.out; have HB3 := Aside0.mk (Bl.alloc HB2.out (.cells #[.slice Ao p.orig.length co, .slice Af p.first.length cf, .slice Aa p.again.length ca] 22 (0, 0))); have HB4 := Aside0.mk (Bl.alloc (Below.refl _ w2) (.cells #[.slice Ao p.orig.length co, .slice Af p.first.length cf, .slice Aa p.again.length ca] 22 (0, 0))); have HP3 := Aside0.mk (HP2.out.below HB4.out HP2.out.lt); have HL3 := Aside0.mk (cont_long (W := w2.alloc (.cells #[.slice Ao p.orig.length co, .slice Af p.first.length cf, .slice Aa p.again.length ca] 22 (0, 0))) (b := w2.heap.size) Ao Af Aa p.orig.length p.first.length p.again.length co cf ca (heap_alloc_new w2 _)); rw [HL.out] at HL3; obtain ⟨_, k13, k14, k15, k16, k33⟩ := HP3.out.cells HS.out; rw [HA.out] at k16; rw [HR.out] at k33)
      | (go_at_call 32; (with_reducible refine HL3.out.mono ?_); rintro e w3 ⟨rfl, rfl⟩)
      | ((with_reducible refine gate_ld (t := 23) rfl ?_); refine wpList_wanted_run rfl rfl 23 (.tmp 54) rfl rfl (reset_load HP3.out HS.out) ?_))
                go_ret
                exact ⟨rfl, HB3.out⟩
              | false =>
                obtain rfl : R = 0 := (HC.out false false (by unfold Pm.bad1; rfl) (by unfold Pm.bad2; rw [hw, HA.out, HR.out, HZ.out]; rfl)).trans rfl
                go_enter Tryd.func13, Tryd.ntmps13
                go_wp2_with (first
      | (go_at_call 19; (with_reducible refine (fields_s _).mono ?_); rintro e w1 ⟨b, rfl, hf, hlt, hb⟩; have HF := Aside0.mk hf; have HP1 := Aside0.mk (HP.out.below hb HP.out.lt); have HB1 := Aside0.mk (Bl.then HB.out hb); clear hf hb HP HB)
      | (go_at_call 31; (with_reducible refine (cont_fld HP1.out HF.out HS.out).mono ?_); rw [HO.out]; rintro e w2 ⟨rfl, hb⟩; have HP2 := Aside0.mk (HP1.out.below hb HP1.out.lt); have HB2 := Aside0.mk (Bl.then HB1.out hb); clear hb HB1 HF HP1; obtain ⟨_, q13, q14, q15, _, _⟩ := HP2.out.cells HS.out; have HB3 := Aside0.mk (Bl.alloc HB2.out (.cells #[.slice Ao p.orig.length co, .slice Af p.first.length cf, .slice Aa p.again.length ca] 22 (0, 0))); have HB4 := Aside0.mk (Bl.alloc (Below.refl _ w2) (.cells #[.slice Ao p.orig.length co, .slice Af p.first.length cf, .slice Aa p.again.length ca] 22 (0, 0))); have HP3 := Aside0.mk (HP2.out.below HB4.out HP2.out.lt); have HL3 := Aside0.mk (cont_long (W := w2.alloc (.cells #[.slice Ao p.orig.length co, .slice Af p.first.length cf, .slice Aa p.again.length ca] 22 (0, 0))) (b := w2.heap.size) Ao Af Aa p.orig.length p.first.length p.again.length co cf ca (heap_alloc_new w2 _)); rw [HL.out] at HL3; obtain ⟨_, k13, k14, k15, k16, k33⟩ := HP3.out.cells HS.out; rw [HA.out] at k16; rw [HR.out] at k33)
      | (go_at_call 32; (with_reducible refine HL3.out.mono ?_); rintro e w3 ⟨rfl, rfl⟩)
      | ((with_reducible refine gate_ld (t := 23) rfl ?_); refine wpList_wanted_run rfl rfl 23 (.tmp 54) rfl rfl (reset_load HP3.out HS.out) ?_))
                go_ret
                exact ⟨rfl, HB3.out⟩
        | true =>
          cases rr with
          | true =>
            obtain rfl : R = 0 := (HC.out false false (by unfold Pm.bad1; rfl) (by unfold Pm.bad2; rw [HA.out, HR.out]; rfl)).trans rfl
            go_enter Tryd.func13, Tryd.ntmps13
            go_wp2_with (first
      | (go_at_call 19; (with_reducible refine (fields_s _).mono ?_); rintro e w1 ⟨b, rfl, hf, hlt, hb⟩; have HF := Aside0.mk hf; have HP1 := Aside0.mk (HP.out.below hb HP.out.lt); have HB1 := Aside0.mk (Bl.then HB.out hb); clear hf hb HP HB)
      | (go_at_call 31; (with_reducible refine (cont_fld HP1.out HF.out HS.out).mono ?_); rw [HO.out]; rintro e w2 ⟨rfl, hb⟩; have HP2 := Aside0.mk (HP1.out.below hb HP1.out.lt); have HB2 := Aside0.mk (Bl.then HB1.out hb); clear hb HB1 HF HP1; obtain ⟨_, q13, q14, q15, _, _⟩ := HP2.out.cells HS.out; have HB3 := Aside0.mk (Bl.alloc HB2.out (.cells #[.slice Ao p.orig.length co, .slice Af p.first.length cf, .slice Aa p.again.length ca] 22 (0, 0))); have HB4 := Aside0.mk (Bl.alloc (Below.refl _ w2) (.cells #[.slice Ao p.orig.length co, .slice Af p.first.length cf, .slice Aa p.again.length ca] 22 (0, 0))); have HP3 := Aside0.mk (HP2.out.below HB4.out HP2.out.lt); have HL3 := Aside0.mk (cont_long (W := w2.alloc (.cells #[.slice Ao p.orig.length co, .slice Af p.first.length cf, .slice Aa p.again.length ca] 22 (0, 0))) (b := w2.heap.size) Ao Af Aa p.orig.length p.first.length p.again.length co cf ca (heap_alloc_new w2 _)); rw [HL.out] at HL3; obtain ⟨_, k13, k14, k15, k16, k33⟩ := HP3.out.cells HS.out; rw [HA.out] at k16; rw [HR.out] at k33)
      | (go_at_call 32; (with_reducible refine HL3.out.mono ?_); rintro e w3 ⟨rfl, rfl⟩)
      | ((with_reducible refine gate_ld (t := 23) rfl ?_); refine wpList_wanted_run rfl rfl 23 (.tmp 54) rfl rfl (reset_load HP3.out HS.out) ?_))
            go_ret
            exact ⟨rfl, HB3.out⟩
          | false =>
            cases rz with
            | true =>
              obtain rfl : R = 2 := (HC.out false true (by unfold Pm.bad1; rfl) (by unfold Pm.bad2; rw [HA.out, HR.out, HZ.out]; rfl)).trans rfl
              go_enter Tryd.func13, Tryd.ntmps13
              go_wp2_with (first
      | (go_at_call 19; (with_reducible refine (fields_s _).mono ?_); rintro e w1 ⟨b, rfl, hf, hlt, hb⟩; have HF := Aside0.mk hf; have HP1 := Aside0.mk (HP.out.below hb HP.out.lt); have HB1 := Aside0.mk (Bl.then HB.out hb); clear hf hb HP HB)
      | (go_at_call 31; (with_reducible refine (cont_fld HP1.out HF.out HS.out).mono ?_); rw [HO.out]; rintro e w2 ⟨rfl, hb⟩; have HP2 := Aside0.mk (HP1.out.below hb HP1.out.lt); have HB2 := Aside0.mk (Bl.then HB1.out hb); clear hb HB1 HF HP1; obtain ⟨_, q13, q14, q15, _, _⟩ := HP2.out.cells HS.out; have HB3 := Aside0.mk (Bl.alloc HB2.out (.cells #[.slice Ao p.orig.length co, .slice Af p.first.length cf, .slice Aa p.again.length ca] 22 (0, 0))); have HB4 := Aside0.mk (Bl.alloc (Below.refl _ w2) (.cells #[.slice Ao p.orig.length co, .slice Af p.first.length cf, .slice Aa p.again.length ca] 22 (0, 0))); have HP3 := Aside0.mk (HP2.out.below HB4.out HP2.out.lt); have HL3 := Aside0.mk (cont_long (W := w2.alloc (.cells #[.slice Ao p.orig.length co, .slice Af p.first.length cf, .slice Aa p.again.length ca] 22 (0, 0))) (b := w2.heap.size) Ao Af Aa p.orig.length p.first.length p.again.length co cf ca (heap_alloc_new w2 _)); rw [HL.out] at HL3; obtain ⟨_, k13, k14, k15, k16, k33⟩ := HP3.out.cells HS.out; rw [HA.out] at k16; rw [HR.out] at k33)
      | (go_at_call 32; (with_reducible refine HL3.out.mono ?_); rintro e w3 ⟨rfl, rfl⟩)
      | ((with_reducible refine gate_ld (t := 23) rfl ?_); refine wpList_wanted_run rfl rfl 23 (.tmp 54) rfl rfl (reset_load HP3.out HS.out) ?_))
              go_ret
              exact ⟨rfl, HB3.out⟩
            | false =>
              obtain rfl : R = 0 := (HC.out false false (by unfold Pm.bad1; rfl) (by unfold Pm.bad2; rw [HA.out, HR.out, HZ.out]; rfl)).trans rfl
              go_enter Tryd.func13, Tryd.ntmps13
              go_wp2_with (first
      | (go_at_call 19; (with_reducible refine (fields_s _).mono ?_); rintro e w1 ⟨b, rfl, hf, hlt, hb⟩; have HF := Aside0.mk hf; have HP1 := Aside0.mk (HP.out.below hb HP.out.lt); have HB1 := Aside0.mk (Bl.then HB.out hb); clear hf hb HP HB)
      | (go_at_call 31; (with_reducible refine (cont_fld HP1.out HF.out HS.out).mono ?_); rw [HO.out]; rintro e w2 ⟨rfl, hb⟩; have HP2 := Aside0.mk (HP1.out.below hb HP1.out.lt); have HB2 := Aside0.mk (Bl.then HB1.out hb); clear hb HB1 HF HP1; obtain ⟨_, q13, q14, q15, _, _⟩ := HP2.out.cells HS.out; have HB3 := Aside0.mk (Bl.alloc HB2.out (.cells #[.slice Ao p.orig.length co, .slice Af p.first.length cf, .slice Aa p.again.length ca] 22 (0, 0))); have HB4 := Aside0.mk (Bl.alloc (Below.refl _ w2) (.cells #[.slice Ao p.orig.length co, .slice Af p.first.length cf, .slice Aa p.again.length ca] 22 (0, 0))); have HP3 := Aside0.mk (HP2.out.below HB4.out HP2.out.lt); have HL3 := Aside0.mk (cont_long (W := w2.alloc (.cells #[.slice Ao p.orig.length co, .slice Af p.first.length cf, .slice Aa p.again.length ca] 22 (0, 0))) (b := w2.heap.size) Ao Af Aa p.orig.length p.first.length p.again.length co cf ca (heap_alloc_new w2 _)); rw [HL.out] at HL3; obtain ⟨_, k13, k14, k15, k16, k33⟩ := HP3.out.cells HS.out; rw [HA.out] at k16; rw [HR.out] at k33)
      | (go_at_call 32; (with_reducible refine HL3.out.mono ?_); rintro e w3 ⟨rfl, rfl⟩)
      | ((with_reducible refine gate_ld (t := 23) rfl ?_); refine wpList_wanted_run rfl rfl 23 (.tmp 54) rfl rfl (reset_load HP3.out HS.out) ?_))
              go_ret
              exact ⟨rfl, HB3.out⟩
end Go.Proofs.YtcidijmdndcdlaaDoor.Pr
