/- The document's wheel (layer 25): New, At, Stop; no condition. -/
import Derived.Test.YtakmcbakogjeeaaWr1
import Derived.Outline
set_option linter.unusedVariables false
set_option linter.unusedSimpArgs false
namespace Go.Proofs.Ytakmcbakogjeeaa.Wr
open Go Go.RowKit Go.Maps Go.Proofs.Ytakmcbakogjeeaa.Rm Go.Proofs.Ytakmcbakogjeeaa.Rw Go.Proofs.Ytakmcbakogjeeaa.Wh
open Go.Proofs.YtakmcbakogjeeaaW.PrintWords Go.Proofs.YtakmcbakogjeeaaW.PrintLast Go.Proofs.YtakmcbakogjeeaaW.PrintMore
variable {W W' W2 : World} {b g : Nat} {now : Int} {L l l2 : List Tm} {v v2 : Value}
set_option maxRecDepth 100000 in
theorem time_s (t : Int) (W : World) : Calls Try.prog 92 #[.int .i64 t] W fun e w' => e = .returned (.bool (decide (0 ≤ t) && decide (t ≤ 1125899906842624))) ∧ W = w' := by
  by_cases h0 : 0 ≤ t
  · go_enter Try.func92, Try.ntmps92
    go_wp2
    go_ret
    exact ⟨by simp [h0], rfl⟩
  · have h1 : t < 0 := by omega
    go_enter Try.func92, Try.ntmps92
    go_wp2
    go_ret
    exact ⟨by simp [h0] <;> omega, rfl⟩
theorem new_r (W : World) (now : Int) (h : 0 ≤ now ∧ now ≤ 1125899906842624) : Calls Try.prog 39 #[.int .i64 now] W fun e w' => e = .returned (.tuple #[.pointer (some ⟨W.heap.size, 0, none⟩), .int .i64 0]) ∧ RwAt w' W.heap.size W.heap.size now (.slice none 0 0) [] ∧ Below W.heap.size W w' := by
  have CT := Aside0.mk (time_s now W)
  rw [show (decide (0 ≤ now) && decide (now ≤ 1125899906842624)) = true by simp [h]] at CT
  go_enter Try.func39, Try.ntmps39
  go_wp2_with (go_at_call 92; (with_reducible refine CT.out.mono ?_); rintro e w' ⟨rfl, rfl⟩)
  go_ret2
  exact ⟨rfl, ⟨Nat.le_refl _, heap_alloc_new W _, wr_nil _ _ _ _⟩, below_alloc (Below.refl _ W) _⟩
theorem new_rbad (W : World) (now : Int) (h : ¬ (0 ≤ now ∧ now ≤ 1125899906842624)) : Calls Try.prog 39 #[.int .i64 now] W fun e w' => e = .returned (.tuple #[.pointer none, .int .i64 2]) ∧ W = w' := by
  have CT := Aside0.mk (time_s now W)
  rw [show (decide (0 ≤ now) && decide (now ≤ 1125899906842624)) = false by
    by_cases h0 : 0 ≤ now
    · have : ¬ now ≤ 1125899906842624 := fun h1 => h ⟨h0, h1⟩
      simp [this]
    · simp [h0]] at CT
  go_enter Try.func39, Try.ntmps39
  go_wp2_with (go_at_call 92; (with_reducible refine CT.out.mono ?_); rintro e w' ⟨rfl, rfl⟩)
  go_ret2
  exact ⟨rfl, rfl⟩
theorem find_of {k : Int} {j : Nat} {t : Tm} (hm : Tms L) (hj : L[j]? = some t) (ht : t.1 = k) : findT k L = some t.2 := by
  refine (find_some hm.key).1 ?_
  rw [← ht]
  exact List.mem_of_getElem? hj
set_option maxRecDepth 100000 in
set_option maxHeartbeats 1600000 in
theorem at_r (h : RwAt W b g now v L) (hm : Tms L) (hl : L.length ≤ 65536) (k : Int) :
    Calls Try.prog 45 #[.pointer (some ⟨g, 0, none⟩), .int .i64 k] W fun e w' => e = .returned (.tuple #[.int .i64 ((findT k L).getD 0), .bool (findT k L).isSome]) ∧ W = w' := by
  obtain ⟨_, c1⟩ := h.c
  obtain ⟨A, c, rfl⟩ := rd_slice h.row
  have H := Aside0.mk h
  have HM := Aside0.mk hm
  have hl64 : (L.length : Int) ≤ 65536 := by omega
  clear h hm
  go_enter Try.func45, Try.ntmps45
  go_wp2
  go_loopw [6] (fun iv W' => ∃ j : Nat, iv = .int .i64 j ∧ j ≤ L.length ∧ (∀ t ∈ L.take j, t.1 ≠ k) ∧ W = W') (fun iv _ => L.length - (intOf iv).toNat)
  case atStart => exact ⟨0, rfl, Nat.zero_le _, (fun t ht => by simp at ht), rfl⟩
  case round =>
    obtain ⟨j, rfl, hj, hno, rfl⟩ := hrel
    have HN := Aside0.mk hno
    clear hno
    by_cases hlt : j < L.length
    · obtain ⟨t, ht⟩ : ∃ t, L[j]? = some t := ⟨_, List.getElem?_eq_getElem hlt⟩
      obtain ⟨gl, off, rfl, r0, r1⟩ := rd_cells H.out.row ht
      have HT := Aside0.mk ht
      clear ht
      by_cases hk : t.1 = k
      · have hb : (t.1 == k) = true := by simp [hk]
        go_wp2
        go_ret2
        rw [find_of HM.out HT.out hk]
        exact ⟨rfl, rfl⟩
      · have hb : (t.1 == k) = false := by simp [hk]
        go_wp2
        exact ⟨⟨j + 1, by simp, hlt, fun u hu => by
          rw [take_snoc HT.out] at hu
          rcases List.mem_append.1 hu with hu | hu
          · exact HN.out u hu
          · rw [List.mem_singleton.1 hu]; exact hk, by first | rfl | trivial⟩, by simp [intOf]; omega⟩
    · obtain rfl : j = L.length := by omega
      go_wp2
      go_ret2
      have := HN.out
      rw [List.take_length] at this
      rw [find_none.2 this]
      exact ⟨rfl, rfl⟩
theorem wp_app {P : Program} {o : Oper} {a : Act} {K : Act → World → Prop} {Q : Exit → Act → World → Prop} {s y : Operand} {t : TypeId} {w : World}
    (ho : o.op = .call { callee := .builtin .append, args := #[s, y], argTypes := #[t, t] }) {v u v1 : Value} {w1 : World} (hs : a.eval s = v) (hy : a.eval y = u)
    (hr : ∀ ty, (Builtin.append_ #[t, t] ty #[v, u]).run P w = .ok v1 w1) (h : K (a.put o.dst v1) w1) : o.wp P a w K Q := by
  have hr' := hr o.type
  unfold Oper.wp execOp
  simp only [ho, resolve, invoke, builtin, Sem.run_bind, Sem.run_pure, Result.andThen_ok, List.map_toArray, List.map_cons, List.map_nil, hs, hy, hr']
  exact h
theorem rd_empty {W : World} {b k : Nat} {cs : Array Value} (hb : b ≤ k) (hk : W.heap[k]? = some (.cells cs 89 (0, 0))) : RdAt W b (.slice (some ⟨k, 0, none⟩) 0 0) [] :=
  ⟨rfl, .inl ⟨rfl, _, rfl, fun a ha => by injection ha with ha; subst ha; exact ⟨hb, _, hk⟩⟩⟩
/-- A beginning and an end put together in a new row. -/
theorem cut_join {A : Option Addr} {c : Nat} (h : RwAt W b g now (.slice A L.length c) L) (hbw : b ≤ W.heap.size) {i : Nat} (hi : i < L.length) (hl : L.length ≤ 65536) : ∃ A1 c1 A2 c2 w1 A3 c3 A4 c4 w2,
    (∀ W', (Instr.slice 85 (.slice A L.length c) none (some (.int .i64 i)) none).run Try.prog W' = .ok (.slice A1 i c1) W') ∧
    (∀ ty, (Builtin.append_ #[85, 85] ty #[.slice (some ⟨W.heap.size, 0, none⟩) 0 0, .slice A1 i c1]).run Try.prog (W.alloc (.cells #[] 89)).drew = .ok (.slice A2 i c2) w1) ∧
    (∀ W', (Instr.slice 85 (.slice A L.length c) (some (.int .i64 ((i : Int) + 1))) none none).run Try.prog W' = .ok (.slice A3 (L.length - (i + 1)) c3) W') ∧
    (∀ ty, (Builtin.append_ #[85, 85] ty #[.slice A2 i c2, .slice A3 (L.length - (i + 1)) c3]).run Try.prog w1 = .ok (.slice A4 (i + (L.length - (i + 1))) c4) w2) ∧
    w1.cell? ⟨g, 1, none⟩ = some (.slice A L.length c) ∧ w2.cell? ⟨g, 1, none⟩ = some (.slice A L.length c) ∧ w2.frozen? ⟨g, 1, none⟩ = false ∧
    RwAt (w2.setCell ⟨g, 1, none⟩ (.slice A4 (i + (L.length - (i + 1))) c4)) b g now (.slice A4 (i + (L.length - (i + 1))) c4) (L.take i ++ L.drop (i + 1)) ∧ Rk W (w2.setCell ⟨g, 1, none⟩ (.slice A4 (i + (L.length - (i + 1))) c4)) b := by
  have hbA : Below W.heap.size W (W.alloc (.cells #[] 89)).drew := (below_alloc (Below.refl _ W) _).drew
  have hnew : (W.alloc (.cells #[] 89)).drew.heap[W.heap.size]? = some (.cells #[] 89 (0, 0)) := heap_alloc_new W _
  obtain ⟨wa, hwa⟩ : ∃ wa, (W.alloc (.cells #[] 89)).drew = wa := ⟨_, rfl⟩
  rw [hwa] at hbA hnew
  rw [hwa]
  have hA := h.below hbA
  have hsa : W.heap.size < wa.heap.size := (Array.getElem?_eq_some_iff.1 hnew).1
  obtain ⟨A1, c1, s1, r1⟩ := rd_to hA.row (i := i) (by omega)
  obtain ⟨A3, c3, s3, r3⟩ := rd_from hA.row (i := i + 1) hi
  have hlt : (L.take i).length = i := by rw [List.length_take]; omega
  have hld : (L.drop (i + 1)).length = L.length - (i + 1) := List.length_drop
  have h0 := rd_empty (b := b) hbw hnew
  obtain ⟨A2, c2, w1, p1, p2, p3, p4⟩ := rd_app h0 r1 (by omega) (by rw [hlt]; simp; omega)
  rw [hlt] at p1 p2 p4
  simp only [List.length_nil, Nat.zero_add, List.nil_append] at p1 p2 p4
  have hown1 : ∀ k, (Value.slice A2 i c2).ownBlock = some k → W.heap.size ≤ k := fun k hk => by
    rcases p4 with e | ⟨k2, e, hk2⟩
    · rw [e] at hk; simp [Value.ownBlock] at hk; omega
    · rw [e] at hk; injection hk with hk; omega
  have hk1 : ∀ k, k < W.heap.size → w1.heap[k]? = W.heap[k]? := fun k hk => (p3.block k (by omega) (fun e => by simp [Value.ownBlock] at e; omega)).trans (hbA.block k hk)
  have hb1 : Below W.heap.size W w1 := ⟨p3.os.trans hbA.os, p3.tape.trans hbA.tape, p3.output.trans hbA.output, Nat.le_trans hbA.size p3.size, hk1⟩
  have r3' : RdAt w1 b (.slice A3 (L.length - (i + 1)) c3) (L.drop (i + 1)) := by
    obtain ⟨A', c', hv, hrow⟩ := rd_from (h.below hb1).row (i := i + 1) hi
    have e := (s3 W).symm.trans (hv W)
    injection e with e
    rw [e]
    exact hrow
  obtain ⟨A4, c4, w2, q1, q2, q3, q4⟩ := rd_app p2 (by have := r3'; rwa [show L.length - (i + 1) = (L.drop (i + 1)).length from hld.symm] at this) (Nat.le_trans hbw hb1.size) (by rw [hlt, hld]; omega)
  rw [hlt, hld] at q1 q2 q4
  have hk2 : ∀ k, k < W.heap.size → w2.heap[k]? = W.heap[k]? := fun k hk => (q3.block k (Nat.lt_of_lt_of_le hk hb1.size) (fun e => by have := hown1 k e.symm; omega)).trans (hk1 k hk)
  have hb2 : Below W.heap.size W w2 := ⟨q3.os.trans hb1.os, q3.tape.trans hb1.tape, q3.output.trans hb1.output, Nat.le_trans hb1.size q3.size, hk2⟩
  have h2 := h.below hb2
  refine ⟨A1, c1, A2, c2, w1, A3, c3, A4, c4, w2, s1, p1, fun W' => ?_, q1, (h.below hb1).c.2, h2.c.2, h2.free 1, h2.put ?_, (Rk.of_below hb2 hbw).trans (Rk.of_set h2)⟩
  · have := s3 W'
    simpa using this
  · show WRow w2 b _ 2 _ (L.take i ++ L.drop (i + 1)).length _
    rw [List.length_append, hlt, hld]
    have : WRow w2 b _ 2 _ (L.take i ++ L.drop (i + 1)).length _ := q2
    rw [List.length_append, hlt, hld] at this
    exact this
theorem without_at {k : Int} {i : Nat} {t : Tm} (hm : Tms L) (hi : L[i]? = some t) (ht : t.1 = k) : without k L = L.take i ++ L.drop (i + 1) := by
  have e : L = L.take i ++ t :: L.drop (i + 1) := by rw [← drop_cons hi, List.take_append_drop]
  have hk := hm.key
  rw [e] at hk
  obtain ⟨_, h2, h3⟩ := List.pairwise_append.1 hk
  have h4 := (List.pairwise_cons.1 h2).1
  conv => lhs; rw [e]
  unfold without
  rw [List.filter_append, List.filter_cons, if_neg (by simp [ht])]
  congr 1
  · exact without_self (fun y hy => by rw [← ht]; exact h3 y hy t List.mem_cons_self)
  · exact without_self (fun y hy e => h4 y hy (ht.trans e.symm))
set_option maxRecDepth 100000 in
set_option maxHeartbeats 1600000 in
theorem stop_r (h : RwAt W b g now v L) (hbw : b ≤ W.heap.size) (hm : Tms L) (hl : L.length ≤ 65536) (k : Int) :
    Calls Try.prog 42 #[.pointer (some ⟨g, 0, none⟩), .int .i64 k] W fun e w' => e = .returned (.bool (findT k L).isSome) ∧ ∃ v', RwAt w' b g now v' (without k L) ∧ Rk W w' b := by
  obtain ⟨_, c1⟩ := h.c
  obtain ⟨A, c, rfl⟩ := rd_slice h.row
  have H := Aside0.mk h
  have HM := Aside0.mk hm
  have hl64 : (L.length : Int) ≤ 65536 := by omega
  clear h hm
  go_enter Try.func42, Try.ntmps42
  go_wp2
  go_loopw [5] (fun iv W' => ∃ j : Nat, iv = .int .i64 j ∧ j ≤ L.length ∧ (∀ t ∈ L.take j, t.1 ≠ k) ∧ W = W') (fun iv _ => L.length - (intOf iv).toNat)
  case atStart => exact ⟨0, rfl, Nat.zero_le _, (fun t ht => by simp at ht), rfl⟩
  case round =>
    obtain ⟨j, rfl, hj, hno, rfl⟩ := hrel
    have HN := Aside0.mk hno
    clear hno
    by_cases hlt : j < L.length
    · obtain ⟨t, ht⟩ : ∃ t, L[j]? = some t := ⟨_, List.getElem?_eq_getElem hlt⟩
      obtain ⟨gl, off, rfl, r0, r1⟩ := rd_cells H.out.row ht
      have HT := Aside0.mk ht
      clear ht
      by_cases hk : t.1 = k
      · have hb : (t.1 == k) = true := by simp [hk]
        obtain ⟨A1, c1', A2, c2, w1, A3, c3, A4, c4, w2, s1, p1, s3, q1, m1, m2, m3, m4, m5⟩ := cut_join H.out hbw hlt hl
        have HF := Aside0.mk (And.intro m4 m5)
        have hbA : Below W.heap.size W (W.alloc (.cells #[] 89)).drew := (below_alloc (Below.refl _ W) _).drew
        have m0 : (W.alloc (.cells #[] 89)).drew.cell? ⟨g, 1, none⟩ = some (.slice (some ⟨gl, off, none⟩) L.length c) := (H.out.below hbA).c.2
        have e1 : IntKind.i64.wrap ((j : Int) + 1) = (j : Int) + 1 := by rw [IntKind.wrap_i64]; omega
        clear m4 m5 hbA
        go_upto_region 5 with fail
        go_region_law (first
          | (refine wp_app (s := .tmp 26) (y := .tmp 32) rfl rfl rfl p1 ?_)
          | (refine wp_app (s := .tmp 33) (y := .tmp 40) rfl rfl rfl q1 ?_))
        all_goals go_wp2_with fail
        all_goals go_ret
        all_goals rw [find_of HM.out HT.out hk, without_at HM.out HT.out hk]
        all_goals exact ⟨rfl, _, HF.out.1, HF.out.2⟩
      · have hb : (t.1 == k) = false := by simp [hk]
        go_wp2
        exact ⟨⟨j + 1, by simp, hlt, fun u hu => by
          rw [take_snoc HT.out] at hu
          rcases List.mem_append.1 hu with hu | hu
          · exact HN.out u hu
          · rw [List.mem_singleton.1 hu]; exact hk, by first | rfl | trivial⟩, by simp [intOf]; omega⟩
    · obtain rfl : j = L.length := by omega
      go_wp2
      go_ret
      have := HN.out
      rw [List.take_length] at this
      rw [find_none.2 this, without_self this]
      exact ⟨rfl, _, H.out, Rk.refl _ _⟩
end Go.Proofs.Ytakmcbakogjeeaa.Wr
