/- The document's wheel (layer 25): Set; no condition. -/
import Derived.Test.YtakmcbakogjeeaaWr3
set_option linter.unusedVariables false
set_option linter.unusedSimpArgs false
namespace Go.Proofs.Ytakmcbakogjeeaa.Wr
open Go Go.RowKit Go.Maps Go.Proofs.Ytakmcbakogjeeaa.Rm Go.Proofs.Ytakmcbakogjeeaa.Rw Go.Proofs.Ytakmcbakogjeeaa.Wh
open Go.Proofs.YtakmcbakogjeeaaW.PrintWords Go.Proofs.YtakmcbakogjeeaaW.PrintLast Go.Proofs.YtakmcbakogjeeaaW.PrintMore
variable {W W' W0 W2 : World} {b g : Nat} {now nw : Int} {L l l2 K : List Tm} {v v2 ov : Value} {ks : List Int}
theorem ins_at {t : Tm} : ∀ {K : List Tm} {j : Nat}, (∀ x ∈ K.take j, lt x t) → (∀ y, K[j]? = some y → ¬ lt y t) → insT t K = K.take j ++ t :: K.drop j
  | [], j, _, _ => by simp [insT]
  | y :: r, 0, _, h2 => by
    have := h2 y rfl
    simp [insT, this]
  | y :: r, j + 1, h1, h2 => by
    have hy : lt y t := h1 y (by simp)
    have := ins_at (K := r) (j := j) (fun x hx => h1 x (by simp [hx])) (fun z hz => h2 z (by simpa using hz))
    simp [insT, hy, this]
theorem rd_one {W : World} {b k : Nat} {t : Tm} (hb : b ≤ k) (hk : W.heap[k]? = some (.cells #[.int .i64 t.1, .int .i64 t.2] 89 (0, 0))) : RdAt W b (.slice (some ⟨k, 0, none⟩) 1 1) [t] :=
  ⟨rfl, .inr ⟨k, 0, 1, _, rfl, hb, hk, Nat.le_refl _, by unfold maxLen; omega, by simp, rfl⟩⟩
theorem own_up {A2 : Option Addr} {n2 c2 s s2 : Nat} {v : Value} (h : (Value.slice A2 n2 c2).ownBlock = v.ownBlock ∨ ∃ k, (Value.slice A2 n2 c2).ownBlock = some k ∧ s2 ≤ k) (hv : ∀ k, v.ownBlock = some k → s ≤ k) (hs : s ≤ s2) : ∀ k, (Value.slice A2 n2 c2).ownBlock = some k → s ≤ k := fun k hk => by
  rcases h with e | ⟨k2, e, hk2⟩
  · rw [e] at hk; exact hv k hk
  · rw [e] at hk; injection hk with hk; omega
theorem below_own {W W1 w2 : World} {v : Value} (h : Below W.heap.size W W1) (hg : W1.grownBy w2 v.ownBlock) (hv : ∀ k, v.ownBlock = some k → W.heap.size ≤ k) : Below W.heap.size W w2 :=
  h.trans ⟨hg.os, hg.tape, hg.output, hg.size, fun k hk => hg.block k (Nat.lt_of_lt_of_le hk h.size) (fun e => by have := hv k e.symm; omega)⟩
/-- A timer put between a beginning and an end. -/
theorem ins_join {A : Option Addr} {c j : Nat} {t : Tm} (h : RwAt W b g now (.slice A K.length c) K) (hbw : b ≤ W.heap.size) (hj : j ≤ K.length) (hl : K.length ≤ 65536) : ∃ A1 c1 A2 c2 w1 A3 c3 w2 A4 c4 A5 c5 w3,
    (∀ W', (Instr.slice 85 (.slice A K.length c) none (some (.int .i64 j)) none).run Try.prog W' = .ok (.slice A1 j c1) W') ∧
    (∀ ty, (Builtin.append_ #[85, 85] ty #[.slice (some ⟨W.heap.size, 0, none⟩) 0 0, .slice A1 j c1]).run Try.prog (W.alloc (.cells #[] 89)) = .ok (.slice A2 j c2) w1) ∧
    (∀ ty, (Builtin.append_ #[85, 85] ty #[.slice A2 j c2, .slice (some ⟨w1.heap.size, 0, none⟩) 1 1]).run Try.prog (w1.alloc (.cells #[.int .i64 t.1, .int .i64 t.2] 89)) = .ok (.slice A3 (j + 1) c3) w2) ∧
    (∀ W', (Instr.slice 85 (.slice A K.length c) (some (.int .i64 j)) none none).run Try.prog W' = .ok (.slice A4 (K.length - j) c4) W') ∧
    (∀ ty, (Builtin.append_ #[85, 85] ty #[.slice A3 (j + 1) c3, .slice A4 (K.length - j) c4]).run Try.prog w2 = .ok (.slice A5 (j + 1 + (K.length - j)) c5) w3) ∧
    w2.cell? ⟨g, 1, none⟩ = some (.slice A K.length c) ∧ w3.frozen? ⟨g, 1, none⟩ = false ∧ w3.cell? ⟨g, 1, none⟩ = some (.slice A K.length c) ∧
    RwAt (w3.setCell ⟨g, 1, none⟩ (.slice A5 (j + 1 + (K.length - j)) c5)) b g now (.slice A5 (j + 1 + (K.length - j)) c5) (K.take j ++ t :: K.drop j) ∧ Rk W (w3.setCell ⟨g, 1, none⟩ (.slice A5 (j + 1 + (K.length - j)) c5)) b := by
  have hbA : Below W.heap.size W (W.alloc (.cells #[] 89)) := below_alloc (Below.refl _ W) _
  have hnew : (W.alloc (.cells #[] 89)).heap[W.heap.size]? = some (.cells #[] 89 (0, 0)) := heap_alloc_new W _
  obtain ⟨wa, hwa⟩ : ∃ wa, W.alloc (.cells #[] 89) = wa := ⟨_, rfl⟩
  rw [hwa] at hbA hnew
  rw [hwa]
  have hA := h.below hbA
  have hsa : W.heap.size < wa.heap.size := (Array.getElem?_eq_some_iff.1 hnew).1
  obtain ⟨A1, c1, s1, r1⟩ := rd_to hA.row (i := j) hj
  have hlt : (K.take j).length = j := by rw [List.length_take]; omega
  have hld : (K.drop j).length = K.length - j := List.length_drop
  have h0 := rd_empty (b := b) hbw hnew
  obtain ⟨A2, c2, w1, p1, p2, p3, p4⟩ := rd_app h0 r1 (by omega) (by rw [hlt]; simp; omega)
  rw [hlt] at p1 p2 p4
  simp only [List.length_nil, Nat.zero_add, List.nil_append] at p1 p2 p4
  have o0 : ∀ k, (Value.slice (some ⟨W.heap.size, 0, none⟩) 0 0).ownBlock = some k → W.heap.size ≤ k := fun k hk => by simp [Value.ownBlock] at hk; omega
  have o1 := own_up p4 o0 (by omega)
  have hb1 := below_own hbA p3 o0
  have hs1 := hb1.size
  have hbB : Below w1.heap.size w1 (w1.alloc (.cells #[.int .i64 t.1, .int .i64 t.2] 89)) := below_alloc (Below.refl _ w1) _
  have hx := rd_one (b := b) (t := t) (by omega) (heap_alloc_new w1 (.cells #[.int .i64 t.1, .int .i64 t.2] 89 (0, 0)))
  have p2' : RdAt (w1.alloc (.cells #[.int .i64 t.1, .int .i64 t.2] 89)) b (.slice A2 j c2) (K.take j) := by
    show WRow _ b _ 2 _ (K.take j).length _
    rw [hlt]
    have q : WRow w1 b _ 2 _ (K.take j).length _ := p2
    rw [hlt] at q
    exact wr_move q (fun k hk => hbB.block k (wr_lt q k hk))
  obtain ⟨A3, c3, w2, q1, q2, q3, q4⟩ := rd_app p2' hx (by have := hbB.size; omega) (by rw [hlt]; simp; omega)
  rw [hlt] at q1 q2 q4
  simp only [List.length_singleton] at q1 q2 q4
  have o2 := own_up q4 o1 (by have := hbB.size; omega)
  have hb2 := below_own (hb1.trans (hbB.mono hs1)) q3 o1
  have h2 := h.below hb2
  obtain ⟨A4, c4, s3, r3⟩ := rd_from h2.row (i := j) hj
  have hlt2 : (K.take j ++ [t]).length = j + 1 := by rw [List.length_append, hlt]; rfl
  have q2' : RdAt w2 b (.slice A3 (j + 1) c3) (K.take j ++ [t]) := q2
  obtain ⟨A5, c5, w3, y1, y2, y3, y4⟩ := rd_app q2' r3 (Nat.le_trans hbw hb2.size) (by rw [hlt2, hld]; omega)
  rw [hlt2, hld] at y1 y2 y4
  have hb3 := below_own hb2 y3 o2
  have h3 := h.below hb3
  refine ⟨A1, c1, A2, c2, w1, A3, c3, w2, A4, c4, A5, c5, w3, s1, p1, q1, s3, y1, h2.c.2, h3.free 1, h3.c.2, h3.put ?_, (Rk.of_below hb3 hbw).trans (Rk.of_set h3)⟩
  have e : K.take j ++ t :: K.drop j = K.take j ++ [t] ++ K.drop j := by simp
  rw [e]
  exact y2
/-- A cut for the walk, where its run is known. -/
theorem wpList_hi_run {P : Program} {ops : Array Oper} {rest : List Oper} {o : Oper} {a : Act} {w : World} {Q : Exit → Act → World → Prop} {N : Nat} (hgd : o.guard = none) (hd : o.dst = some N) (t e : TypeId) (ht : P.underlying t = some (.slice e)) (x y : Operand)
    (ho : o.op = .slice t x none (some y) none) {u z v : Value} (hx : a.eval x = u) (hy : a.eval y = z) (hr : (Instr.slice t u none (some z) none).run P w = .ok v w) (h : wpList P ops Q rest (a.put (some N) v) w) : wpList P ops Q (o :: rest) a w := by
  refine wpList_value_run hgd hd (v := v) (w' := w) ?_ h
  unfold execOp
  simp only [ho, Instr.sliceAt, Sem.run_bind, run_underlying ht, Result.andThen_ok, Option.map_none, Option.map_some, hx, hy, hr, Sem.run_pure]
theorem wpList_lo_run {P : Program} {ops : Array Oper} {rest : List Oper} {o : Oper} {a : Act} {w : World} {Q : Exit → Act → World → Prop} {N : Nat} (hgd : o.guard = none) (hd : o.dst = some N) (t e : TypeId) (ht : P.underlying t = some (.slice e)) (x y : Operand)
    (ho : o.op = .slice t x (some y) none none) {u z v : Value} (hx : a.eval x = u) (hy : a.eval y = z) (hr : (Instr.slice t u (some z) none none).run P w = .ok v w) (h : wpList P ops Q rest (a.put (some N) v) w) : wpList P ops Q (o :: rest) a w := by
  refine wpList_value_run hgd hd (v := v) (w' := w) ?_ h
  unfold execOp
  simp only [ho, Instr.sliceAt, Sem.run_bind, run_underlying ht, Result.andThen_ok, Option.map_none, Option.map_some, hx, hy, hr, Sem.run_pure]
theorem set_rbad (h : RwAt W b g now v L) {k a : Int} (ht : ¬ (0 ≤ a ∧ a ≤ 1125899906842624)) :
    Calls Try.prog 41 #[.pointer (some ⟨g, 0, none⟩), .int .i64 k, .int .i64 a] W fun e w' => e = .returned (.int .i64 2) ∧ W = w' := by
  have CT := Aside0.mk (time_s a W)
  rw [show (decide (0 ≤ a) && decide (a ≤ 1125899906842624)) = false by
    by_cases h0 : 0 ≤ a
    · have : ¬ a ≤ 1125899906842624 := fun h1 => ht ⟨h0, h1⟩
      simp [this]
    · simp [h0]] at CT
  clear h ht
  go_enter Try.func41, Try.ntmps41
  go_wp2_with (go_at_call 92; (with_reducible refine CT.out.mono ?_); rintro e w' ⟨rfl, rfl⟩)
  go_ret
  exact ⟨by first | rfl | trivial, by first | rfl | trivial⟩
set_option maxRecDepth 100000 in
theorem set_rfull (h : RwAt W b g now v L) (hm : Tms L) {k a : Int} (ht : 0 ≤ a ∧ a ≤ 1125899906842624) (hf : findT k L = none) (hl : L.length = 65536) :
    Calls Try.prog 41 #[.pointer (some ⟨g, 0, none⟩), .int .i64 k, .int .i64 a] W fun e w' => e = .returned (.int .i64 31) ∧ W = w' := by
  have CT := Aside0.mk (time_s a W)
  rw [show (decide (0 ≤ a) && decide (a ≤ 1125899906842624)) = true by simp [ht]] at CT
  have CA := Aside0.mk (at_r h hm (by omega) k)
  rw [hf] at CA
  simp only [Option.getD_none, Option.isSome_none] at CA
  obtain ⟨_, c1⟩ := h.c
  obtain ⟨A, c, rfl⟩ := rd_slice h.row
  rw [hl] at c1
  clear h hm ht hf
  go_enter Try.func41, Try.ntmps41
  go_wp2_with (first
    | (go_at_call 92; (with_reducible refine CT.out.mono ?_); rintro e w' ⟨rfl, rfl⟩)
    | (go_at_call 45; (with_reducible refine CA.out.mono ?_); rintro e w' ⟨rfl, rfl⟩))
  go_ret
  exact ⟨by first | rfl | trivial, by first | rfl | trivial⟩
set_option maxRecDepth 100000 in
set_option maxHeartbeats 3200000 in
theorem set_rok (h : RwAt W b g now v L) (hbw : b ≤ W.heap.size) (hm : Tms L) (hl : L.length ≤ 65536) {k a : Int} (ht : 0 ≤ a ∧ a ≤ 1125899906842624) (hf : ¬ (findT k L = none ∧ 65536 ≤ L.length)) :
    Calls Try.prog 41 #[.pointer (some ⟨g, 0, none⟩), .int .i64 k, .int .i64 a] W fun e w' => e = .returned (.int .i64 0) ∧ ∃ v', RwAt w' b g now v' (insT (k, a) (without k L)) ∧ Rk W w' b := by
  have CT := Aside0.mk (time_s a W)
  rw [show (decide (0 ≤ a) && decide (a ≤ 1125899906842624)) = true by simp [ht]] at CT
  have CA := Aside0.mk (at_r h hm hl k)
  have CS := Aside0.mk (stop_r h hbw hm hl k)
  obtain ⟨_, c1⟩ := h.c
  obtain ⟨A, c, rfl⟩ := rd_slice h.row
  have hgd : (findT k L).isSome = true ∨ ((findT k L).isSome = false ∧ decide ((65536 : Int) ≤ (L.length : Int)) = false) := by
    rcases hfk : findT k L with _ | x
    · refine .inr ⟨rfl, decide_eq_false (fun hh => hf ⟨hfk, by omega⟩)⟩
    · exact .inl rfl
  have HB := Aside0.mk hbw
  obtain ⟨K, hK⟩ : ∃ K, without k L = K := ⟨_, rfl⟩
  have hlK0 : K.length ≤ 65536 := by rw [← hK]; exact Nat.le_trans (List.length_filter_le _ _) hl
  have HKL := Aside0.mk hlK0
  rw [hK] at CS ⊢
  clear h hm ht hf hbw hK hl hlK0
  as_aux_lemma =>
  go_enter Try.func41, Try.ntmps41
  rcases hgd with hgd | ⟨hgd, hge⟩
  all_goals
    rw [hgd] at CA
    go_wp2_with (first
      | (go_at_call 92; (with_reducible refine CT.out.mono ?_); rintro e w' ⟨rfl, rfl⟩)
      | (go_at_call 45; (with_reducible refine CA.out.mono ?_); rintro e w' ⟨rfl, rfl⟩)
      | (go_at_call 42; (with_reducible refine CS.out.mono ?_); rintro e w1 ⟨rfl, v1, hw1, hk1⟩; obtain ⟨B, cb, rfl⟩ := rd_slice hw1.row; have x1 := hw1.c.2; have HW := Aside0.mk (And.intro hw1 (And.intro hk1 (Nat.le_trans HB.out hk1.bel.size))); clear hw1 hk1))
    have hlK := HKL.out
    have hlK64 : (K.length : Int) ≤ 65536 := by omega
    go_loopw [9] (fun iv W' => ∃ j : Nat, iv = .int .i64 j ∧ j ≤ K.length ∧ (∀ x ∈ K.take j, lt x (k, a)) ∧ w1 = W') (fun iv _ => K.length - (intOf iv).toNat)
    case atStart => exact ⟨0, rfl, Nat.zero_le _, (fun t ht => by simp at ht), rfl⟩
    case round =>
      obtain ⟨j, rfl, hj, hno, rfl⟩ := hrel
      have HN := Aside0.mk hno
      clear hno
      by_cases hlt : j < K.length
      · obtain ⟨t, ht⟩ : ∃ t, K[j]? = some t := ⟨_, List.getElem?_eq_getElem hlt⟩
        obtain ⟨gl, off, rfl, r0, r1⟩ := rd_cells HW.out.1.row ht
        have HT := Aside0.mk ht
        clear ht
        have hnext : lt t (k, a) → ∀ x ∈ K.take (j + 1), lt x (k, a) := fun h1 u hu => by
          rw [take_snoc HT.out] at hu
          rcases List.mem_append.1 hu with hu | hu
          · exact HN.out u hu
          · rw [List.mem_singleton.1 hu]; exact h1
        have HNX := Aside0.mk hnext
        clear hnext
        by_cases h1 : t.2 < a
        · go_wp2
          exact ⟨⟨j + 1, by simp, hlt, HNX.out (.inl h1), by first | rfl | trivial⟩, by simp [intOf]; omega⟩
        by_cases h2 : t.2 = a
        · by_cases h3 : t.1 < k
          · have hb : (t.2 == a) = true := by simp [h2]
            go_wp2
            exact ⟨⟨j + 1, by simp, hlt, HNX.out (.inr ⟨h2, h3⟩), by first | rfl | trivial⟩, by simp [intOf]; omega⟩
          have hb : (t.2 == a) = true := by simp [h2]
          have HE : Aside0 (∀ y, K[j]? = some y → ¬ lt y (k, a)) := ⟨fun y hy => by rw [HT.out] at hy; injection hy with hy; subst hy; unfold lt; simp only; omega⟩
          obtain ⟨A1, c1', A2, c2, wx1, A3, c3, wx2, A4, c4, A5, c5, wx3, s1, p1, q1, s3, y1, m1, m2, m5, m3, m4⟩ := ins_join (t := (k, a)) (j := j) HW.out.1 HW.out.2.2 hj hlK
          have HF := Aside0.mk (And.intro m3 (And.intro m4 (ins_at HN.out HE.out)))
          have m0 := (HW.out.1.below (below_alloc (Below.refl _ w1) (.cells #[] 89 (0, 0)))).c.2
          clear m3 m4
          go_wp2_with (first
            | ((with_reducible refine gate_d (N := 84) rfl ?_); refine wpList_hi_run rfl rfl 85 89 Try.underlying85 (.tmp 82) (.tmp 83) rfl rfl rfl (s1 _) ?_)
            | ((with_reducible refine gate_d (N := 99) rfl ?_); refine wpList_lo_run rfl rfl 85 89 Try.underlying85 (.tmp 97) (.tmp 98) rfl rfl rfl (s3 _) ?_)
            | ((with_reducible refine gate_builtin (b := .append) (xs := #[.tmp 78, .tmp 84]) rfl ?_); at_builtin; refine wpList_app_run _ rfl _ _ 85 rfl _ _ rfl rfl p1 ?_)
            | ((with_reducible refine gate_builtin (b := .append) (xs := #[.tmp 86, .tmp 90]) rfl ?_); at_builtin; refine wpList_app_run _ rfl _ _ 85 rfl _ _ rfl rfl q1 ?_)
            | ((with_reducible refine gate_builtin (b := .append) (xs := #[.tmp 93, .tmp 99]) rfl ?_); at_builtin; refine wpList_app_run _ rfl _ _ 85 rfl _ _ rfl rfl y1 ?_))
          go_ret
          rw [HF.out.2.2]
          first
            | exact ⟨by first | rfl | trivial, ⟨_, HF.out.1⟩, HW.out.2.1.trans HF.out.2.1⟩
            | exact ⟨by first | rfl | trivial, _, HF.out.1, HW.out.2.1.trans HF.out.2.1⟩
        · have hb : (t.2 == a) = false := by simp [h2]
          have HE : Aside0 (∀ y, K[j]? = some y → ¬ lt y (k, a)) := ⟨fun y hy => by rw [HT.out] at hy; injection hy with hy; subst hy; unfold lt; simp only; omega⟩
          obtain ⟨A1, c1', A2, c2, wx1, A3, c3, wx2, A4, c4, A5, c5, wx3, s1, p1, q1, s3, y1, m1, m2, m5, m3, m4⟩ := ins_join (t := (k, a)) (j := j) HW.out.1 HW.out.2.2 hj hlK
          have HF := Aside0.mk (And.intro m3 (And.intro m4 (ins_at HN.out HE.out)))
          have m0 := (HW.out.1.below (below_alloc (Below.refl _ w1) (.cells #[] 89 (0, 0)))).c.2
          clear m3 m4
          go_wp2_with (first
            | ((with_reducible refine gate_d (N := 84) rfl ?_); refine wpList_hi_run rfl rfl 85 89 Try.underlying85 (.tmp 82) (.tmp 83) rfl rfl rfl (s1 _) ?_)
            | ((with_reducible refine gate_d (N := 99) rfl ?_); refine wpList_lo_run rfl rfl 85 89 Try.underlying85 (.tmp 97) (.tmp 98) rfl rfl rfl (s3 _) ?_)
            | ((with_reducible refine gate_builtin (b := .append) (xs := #[.tmp 78, .tmp 84]) rfl ?_); at_builtin; refine wpList_app_run _ rfl _ _ 85 rfl _ _ rfl rfl p1 ?_)
            | ((with_reducible refine gate_builtin (b := .append) (xs := #[.tmp 86, .tmp 90]) rfl ?_); at_builtin; refine wpList_app_run _ rfl _ _ 85 rfl _ _ rfl rfl q1 ?_)
            | ((with_reducible refine gate_builtin (b := .append) (xs := #[.tmp 93, .tmp 99]) rfl ?_); at_builtin; refine wpList_app_run _ rfl _ _ 85 rfl _ _ rfl rfl y1 ?_))
          go_ret
          rw [HF.out.2.2]
          first
            | exact ⟨by first | rfl | trivial, ⟨_, HF.out.1⟩, HW.out.2.1.trans HF.out.2.1⟩
            | exact ⟨by first | rfl | trivial, _, HF.out.1, HW.out.2.1.trans HF.out.2.1⟩
      · have HE : Aside0 (∀ y, K[j]? = some y → ¬ lt y (k, a)) := ⟨fun y hy => by have := (List.getElem?_eq_some_iff.1 hy).1; omega⟩
        by_cases htriv : True
        · obtain rfl : j = K.length := by omega
          obtain ⟨A1, c1', A2, c2, wx1, A3, c3, wx2, A4, c4, A5, c5, wx3, s1, p1, q1, s3, y1, m1, m2, m5, m3, m4⟩ := ins_join (t := (k, a)) (j := K.length) HW.out.1 HW.out.2.2 hj hlK
          simp only [Nat.sub_self, Nat.add_zero] at s1 p1 q1 s3 y1 m1 m2 m5 m3 m4
          have HF := Aside0.mk (And.intro m3 (And.intro m4 (ins_at HN.out HE.out)))
          have m0 := (HW.out.1.below (below_alloc (Below.refl _ w1) (.cells #[] 89 (0, 0)))).c.2
          clear m3 m4
          go_wp2_with (first
            | ((with_reducible refine gate_d (N := 84) rfl ?_); refine wpList_hi_run rfl rfl 85 89 Try.underlying85 (.tmp 82) (.tmp 83) rfl rfl rfl (s1 _) ?_)
            | ((with_reducible refine gate_d (N := 99) rfl ?_); refine wpList_lo_run rfl rfl 85 89 Try.underlying85 (.tmp 97) (.tmp 98) rfl rfl rfl (s3 _) ?_)
            | ((with_reducible refine gate_builtin (b := .append) (xs := #[.tmp 78, .tmp 84]) rfl ?_); at_builtin; refine wpList_app_run _ rfl _ _ 85 rfl _ _ rfl rfl p1 ?_)
            | ((with_reducible refine gate_builtin (b := .append) (xs := #[.tmp 86, .tmp 90]) rfl ?_); at_builtin; refine wpList_app_run _ rfl _ _ 85 rfl _ _ rfl rfl q1 ?_)
            | ((with_reducible refine gate_builtin (b := .append) (xs := #[.tmp 93, .tmp 99]) rfl ?_); at_builtin; refine wpList_app_run _ rfl _ _ 85 rfl _ _ rfl rfl y1 ?_))
          go_ret
          rw [HF.out.2.2]
          first
            | exact ⟨by first | rfl | trivial, ⟨_, HF.out.1⟩, HW.out.2.1.trans HF.out.2.1⟩
            | exact ⟨by first | rfl | trivial, _, HF.out.1, HW.out.2.1.trans HF.out.2.1⟩
        · exact absurd trivial htriv
theorem rt_set (h : RwAt W b g now v L) (hbw : b ≤ W.heap.size) (hm : Tms L) (hl : L.length ≤ 65536) (k a : Int) :
    Calls Try.prog 41 #[.pointer (some ⟨g, 0, none⟩), .int .i64 k, .int .i64 a] W fun e w' => e = .returned (.int .i64 (setV L k a)) ∧ ∃ v', RwAt w' b g now v' (setL L k a) ∧ Rk W w' b := by
  unfold setL setV
  by_cases ht : 0 ≤ a ∧ a ≤ 1125899906842624
  · rw [if_neg (fun hh => hh ht)]
    by_cases hf : findT k L = none ∧ 65536 ≤ L.length
    · rw [if_pos hf, if_neg (by decide)]
      refine (set_rfull h hm ht hf.1 (by omega)).mono ?_
      rintro e w' ⟨rfl, rfl⟩
      exact ⟨rfl, v, h, Rk.refl _ _⟩
    · rw [if_neg hf, if_pos rfl]
      exact set_rok h hbw hm hl ht hf
  · rw [if_pos ht, if_neg (by decide)]
    refine (set_rbad h ht).mono ?_
    rintro e w' ⟨rfl, rfl⟩
    exact ⟨rfl, v, h, Rk.refl _ _⟩
end Go.Proofs.Ytakmcbakogjeeaa.Wr
