/- Parameters (layer 3): Var in plain words, next, numbered; no condition. -/
import Derived.Test.YtcidijmdndcdlaaDoorPr6
import Derived.Handy
set_option linter.unusedVariables false
set_option linter.unusedSimpArgs false
namespace Go.Proofs.YtcidijmdndcdlaaDoor.Pr
open Go Go.RowKit Go.Maps Go.Proofs.YtcidijmdndcdlaaDoor.Pm Go.Proofs.YtcidijmdndcdlaaDoor.Rm Go.Proofs.YtcidijmdndcdlaaDoor.OctM
open Go.Proofs.YtcidijmdndcdlaaDoorW.PrintWords Go.Proofs.YtcidijmdndcdlaaDoorW.PrintLast Go.Proofs.YtcidijmdndcdlaaDoorW.PrintMore
variable {W W' W0 : World} {g b m n : Nat} {p : Pm} {vo vf va : Value} {kv : KV}
abbrev Bytes (xs : List Int) : Prop := ∀ x ∈ xs, 0 ≤ x ∧ x < 256
abbrev big : Nat := 140737488355328
theorem var_s (hG : GL W) {A : Option Addr} {c : Nat} {xs : List Int} (hc : xs.length ≤ c) (hC : Kd.C (Kd.int .u8) W A xs.length xs) (hb : Bytes xs) (hl : xs.length ≤ big) (q : Int) :
    Calls Tryd.prog 50 #[.slice A xs.length c, .int .i64 q] W fun e w' => e = .returned (.tuple #[.int .i64 (varF xs q).1, .int .i64 (varF xs q).2.1, .int .i64 (varF xs q).2.2]) ∧ Below W.heap.size W w' := by
  refine (QOct.octet_Var.calls A c xs q (varF xs q).1 (varF xs q).2.1 (varF xs q).2.2 W hC hc hG ?_).mono ?_
  · unfold QOct.octet_Var.f
    rw [if_pos hl, if_pos (by rw [List.all_eq_true]; intro x hx; simpa using hb x hx)]
  · rintro e w' ⟨rfl, hd⟩
    exact ⟨rfl, hd.below⟩
abbrev errV (n : Int) : Value := .iface 26 (.int .i64 n)
set_option maxRecDepth 100000 in
theorem numbered_s (hG : GL W) (h : PmAt W g p vo vf va) (hs : Sz p) {k : Nat} (hk : k < 12) {v : Value} {xs : List Int} (hv : Sl W v xs) (hb : Bytes xs) (hl : xs.length ≤ big) :
    Calls Tryd.prog 51 #[fldV g k, v] W fun e w' =>
      (numOk varF k xs = true ∧ e = .returned .nilIface ∧ PmAt w' g { p with n := p.n.set k (varF xs 0).1 } vo vf va ∧ ButM W w' g) ∨ (numOk varF k xs = false ∧ e = .returned (errV 11) ∧ ButM W w' g) := by
  obtain ⟨A, c, rfl, hc, hC⟩ := hv
  have HB := Aside0.mk (Bl.alloc (Below.refl _ W) (.cells #[.int .i64 (fid k), .pointer (some ⟨g, foff k, none⟩), .int .i64 (fleast k), .int .i64 (fmost k), .int .i64 (fnone k)] 57 (0, 0)))
  have VR := Aside0.mk (fun q => var_s (W := W.alloc (.cells #[.int .i64 (fid k), .pointer (some ⟨g, foff k, none⟩), .int .i64 (fleast k), .int .i64 (fmost k), .int .i64 (fnone k)] 57 (0, 0))) (gl_same hG (Sames.of_below HB.out)) hc (Kd.C_below hC HB.out) hb hl q)
  obtain ⟨d0, d1, d2, hd⟩ : ∃ d0 d1 d2, varF xs 0 = (d0, d1, d2) := ⟨_, _, _, rfl⟩
  have hno : numOk varF k xs = (decide (d2 = 0) && decide (d1 = (xs.length : Int)) && may k d0) := by unfold numOk; rw [hd]
  have VC := Aside0.mk (VR.out 0)
  rw [hd] at VC
  rw [hno, hd]
  simp only at VC ⊢
  have HP := Aside0.mk h
  have HS := Aside0.mk hs
  have HX : Aside0 (∀ w', Below (W.alloc (.cells #[.int .i64 (fid k), .pointer (some ⟨g, foff k, none⟩), .int .i64 (fleast k), .int .i64 (fmost k), .int .i64 (fnone k)] 57 (0, 0))).heap.size (W.alloc (.cells #[.int .i64 (fid k), .pointer (some ⟨g, foff k, none⟩), .int .i64 (fleast k), .int .i64 (fmost k), .int .i64 (fnone k)] 57 (0, 0))) w' →
      Below W.heap.size W w' ∧ PmAt w' g p vo vf va ∧ w'.heap[W.heap.size]? = some (.cells #[.int .i64 (fid k), .pointer (some ⟨g, foff k, none⟩), .int .i64 (fleast k), .int .i64 (fmost k), .int .i64 (fnone k)] 57 (0, 0))) := ⟨fun w' hb => by
    have h2 := Bl.then HB.out hb
    exact ⟨h2, HP.out.below h2 HP.out.lt, (hb.block _ (by rw [alloc_size]; omega)).trans (heap_alloc_new W _)⟩⟩
  clear hno hd hG hC hb hl h hs hc VR
  go_enter Tryd.func51, Tryd.ntmps51
  by_cases h2 : d2 = 0
  · by_cases h1 : d1 = (xs.length : Int)
    · have e1 : decide (d1 = (xs.length : Int)) = true := decide_eq_true h1
      have e2 : decide (d2 = 0) = true := decide_eq_true h2
      have f1 : (d1 != (xs.length : Int)) = false := by simp [h1]
      have f2 : (d2 != 0) = false := by simp [h2]
      rw [e1, e2]
      clear h1 h2 e1 e2
      obtain ⟨rm, hrm⟩ : ∃ rm, may k d0 = rm := ⟨_, rfl⟩
      have MS : Aside0 (∀ W', Calls Tryd.prog 29 #[fldV g k, .int .i64 d0] W' fun e w' => e = .returned (.bool rm) ∧ Below W'.heap.size W' w') := ⟨fun W' => by rw [← hrm]; exact may_s _ _ _ _ _ _⟩
      rw [hrm]
      clear hrm
      cases rm with
      | true =>
        go_wp2_with (first
          | (go_at_call 50; (with_reducible refine VC.out.mono ?_); rintro e w1 ⟨rfl, hb⟩; obtain ⟨x0, x1, x2⟩ := HX.out _ hb; have c0 := cell_of_row _ _ 0 _ _ _ x2; have c1 := cell_of_row _ _ 1 _ _ _ x2; have c2 := cell_of_row _ _ 2 _ _ _ x2; have c3 := cell_of_row _ _ 3 _ _ _ x2; have c4 := cell_of_row _ _ 4 _ _ _ x2; have XX := Aside0.mk (And.intro x0 (And.intro x1 x2)); clear x0 x1 x2 hb)
          | (go_at_call 29; (with_reducible refine (MS.out _).mono ?_); rintro e w2 ⟨rfl, hb⟩; have p2 := XX.out.2.1.below hb XX.out.2.1.lt; have q2 := (hb.block _ (Array.getElem?_eq_some_iff.1 XX.out.2.2).1).trans XX.out.2.2; have y1 := cell_of_row _ _ 1 _ _ _ q2; have y2 := p2.num HS.out hk; have y3 := p2.free (foff k); have YY := Aside0.mk (And.intro (Bl.then XX.out.1 hb) p2); clear hb p2 q2))
        go_ret
        exact .inl ⟨rfl, rfl, YY.out.2.setn HS.out hk d0, ⟨YY.out.1.os, YY.out.1.tape, YY.out.1.output, by simpa [World.setCell] using YY.out.1.size, fun j hj hne => (Below.heap_setCell _ ⟨g, foff k, none⟩ _ j hne).trans (YY.out.1.block j hj)⟩⟩
      | false =>
        go_wp2_with (first
          | (go_at_call 50; (with_reducible refine VC.out.mono ?_); rintro e w1 ⟨rfl, hb⟩; obtain ⟨x0, x1, x2⟩ := HX.out _ hb; have c0 := cell_of_row _ _ 0 _ _ _ x2; have c1 := cell_of_row _ _ 1 _ _ _ x2; have c2 := cell_of_row _ _ 2 _ _ _ x2; have c3 := cell_of_row _ _ 3 _ _ _ x2; have c4 := cell_of_row _ _ 4 _ _ _ x2; have XX := Aside0.mk (And.intro x0 (And.intro x1 x2)); clear x0 x1 x2 hb)
          | (go_at_call 29; (with_reducible refine (MS.out _).mono ?_); rintro e w2 ⟨rfl, hb⟩; have YY := Aside0.mk (Bl.then XX.out.1 hb); clear hb))
        go_ret
        exact .inr ⟨rfl, rfl, ButM.of_below YY.out⟩
    · have e1 : decide (d1 = (xs.length : Int)) = false := decide_eq_false h1
      have e2 : decide (d2 = 0) = true := decide_eq_true h2
      have f1 : (d1 != (xs.length : Int)) = true := by simp [h1]
      have f2 : (d2 != 0) = false := by simp [h2]
      rw [e1, e2]
      clear h1 h2 e1 e2
      go_wp2_with (first
        | (go_at_call 50; (with_reducible refine VC.out.mono ?_); rintro e w1 ⟨rfl, hb⟩; have YY := Aside0.mk (HX.out _ hb).1; clear hb))
      go_ret
      exact .inr ⟨rfl, rfl, ButM.of_below YY.out⟩
  · have e2 : decide (d2 = 0) = false := decide_eq_false h2
    have f2 : (d2 != 0) = true := by simp [h2]
    rw [e2]
    clear h2 e2
    go_wp2_with (first
      | (go_at_call 50; (with_reducible refine VC.out.mono ?_); rintro e w1 ⟨rfl, hb⟩; have YY := Aside0.mk (HX.out _ hb).1; clear hb))
    go_ret
    exact .inr ⟨rfl, rfl, ButM.of_below YY.out⟩
theorem infoB : (Tryd.prog.info? 5).map (fun i => (i.zero, i.size, i.bytes)) = some (some (.int .u8 0), 1, 1) := by kernel_rfl
set_option maxRecDepth 100000 in
/-- The two cuts that next hands back. -/
theorem cuts {A : Option Addr} {c : Nat} {xs : List Int} (hc : xs.length ≤ c) (a k : Int) (h0 : 0 ≤ a) (h1 : 0 ≤ k) (h2 : a + k ≤ xs.length) :
    ∃ v1 v2, (∀ W : World, (Instr.slice 22 (.slice A xs.length c) (some (.int .i64 a)) (some (.int .i64 (a + k))) none).run Tryd.prog W = .ok v1 W) ∧ (∀ W : World, (Instr.slice 22 (.slice A xs.length c) (some (.int .i64 (a + k))) none none).run Tryd.prog W = .ok v2 W) ∧
      ∀ W, Kd.C (Kd.int .u8) W A xs.length xs → Sl W v1 ((xs.drop a.toNat).take k.toNat) ∧ Sl W v2 (xs.drop (a + k).toNat) := by
  obtain ⟨i, hi, hz, hsz, _⟩ : ∃ i, Tryd.prog.info? 5 = some i ∧ i.zero = some (.int .u8 0) ∧ i.size = 1 ∧ i.bytes = 1 := by
    have := infoB
    cases hq : Tryd.prog.info? 5 with
    | none => rw [hq] at this; cases this
    | some i =>
      rw [hq] at this
      simp only [Option.map_some, Option.some.injEq, Prod.mk.injEq] at this
      exact ⟨i, rfl, this.1, this.2.1, this.2.2⟩
  obtain ⟨A1, r1, s1, l1⟩ := print_mid_of (P := Tryd.prog) (Value.int .u8) (0 : Int) 22 5 .i64 .i64 Tryd.underlying22 hi hsz A c xs a (a + k) h0 (by omega) h2 hc
  obtain ⟨A2, r2, s2, l2⟩ := print_drop_of (P := Tryd.prog) (Value.int .u8) (0 : Int) 22 5 .i64 Tryd.underlying22 hi hsz A c xs (a + k) (by omega) h2 hc
  refine ⟨_, _, r1, r2, fun W h => ⟨?_, A2, _, rfl, l2, Kd.C_of_reads (s2 W (Kd.reads_of_C (d := (0 : Int)) h))⟩⟩
  have e : (xs.take (a + k).toNat).drop a.toNat = (xs.drop a.toNat).take k.toNat := by
    rw [List.drop_take]; congr 1; omega
  have hr := Kd.C_of_reads (h1 := fun _ => rfl) (s1 W (Kd.reads_of_C (d := (0 : Int)) h))
  rw [e] at hr l1 ⊢
  exact ⟨A1, _, rfl, l1, hr⟩
set_option maxRecDepth 100000 in
set_option maxHeartbeats 1600000 in
theorem next_s (hG : GL W) {v : Value} {xs : List Int} (hv : Sl W v xs) (hb : Bytes xs) (hl : xs.length ≤ big) :
    Calls Tryd.prog 40 #[v] W fun e w' => Below W.heap.size W w' ∧
      ((next varF xs = none ∧ e = .returned (.tuple #[.int .i64 0, .slice none 0 0, .slice none 0 0, errV 10])) ∨
       ∃ id val rest v1 v2, next varF xs = some (id, val, rest) ∧ e = .returned (.tuple #[.int .i64 id, v1, v2, .nilIface]) ∧ ∀ W1, Sl W1 v xs → Sl W1 v1 val ∧ Sl W1 v2 rest) := by
  obtain ⟨A, c, rfl, hc, hC⟩ := hv
  obtain ⟨d0, d1, d2, hd⟩ : ∃ d0 d1 d2, varF xs 0 = (d0, d1, d2) := ⟨_, _, _, rfl⟩
  obtain ⟨f0, f1, f2, hf⟩ : ∃ f0 f1 f2, varF xs d1 = (f0, f1, f2) := ⟨_, _, _, rfl⟩
  have VC := Aside0.mk (var_s hG hc hC hb hl 0)
  have VR : Aside0 (∀ W', Below W.heap.size W W' → Calls Tryd.prog 50 #[.slice A xs.length c, .int .i64 d1] W' fun e w' => e = .returned (.tuple #[.int .i64 f0, .int .i64 f1, .int .i64 f2]) ∧ Below W'.heap.size W' w') := ⟨fun W' hbl => by
    have := var_s (gl_same hG (Sames.of_below hbl)) hc (Kd.C_below hC hbl) hb hl d1
    rw [hf] at this; exact this⟩
  rw [hd] at VC
  have hn : next varF xs = if d2 ≠ 0 ∨ f2 ≠ 0 ∨ (xs.length : Int) - f1 < f0 then none else some (d0, (xs.drop f1.toNat).take f0.toNat, xs.drop (f1 + f0).toNat) := by
    unfold next
    simp only [hd, hf]
  have HC := Aside0.mk hC
  by_cases h2 : d2 = 0
  · by_cases h3 : f2 = 0
    · have a1 := codec.ok xs 0 d0 d1 hb (by rw [hd, h2])
      have a2 := codec.ok xs d1 f0 f1 hb (by rw [hf, h3])
      have b2 : (d2 != 0) = false := by simp [h2]
      have b3 : (f2 != 0) = false := by simp [h3]
      by_cases h4 : (xs.length : Int) - f1 < f0
      · have hif : next varF xs = none := by rw [hn]; exact if_pos (.inr (.inr h4))
        rw [hif]
        unfold top at a1 a2
        have z1 : 0 ≤ f1 := by omega
        have z2 : f1 ≤ xs.length := by omega
        unfold big at hl
        clear hif h2 h3 hd hf hn hG hC hb a1 a2
        go_enter Tryd.func40, Tryd.ntmps40
        go_wp2_with (first
          | (go_at_call 50; (with_reducible refine VC.out.mono ?_); rintro e w1 ⟨rfl, hb1⟩; have HB1 := Aside0.mk hb1; clear hb1 VC)
          | (go_at_call 50; (with_reducible refine (VR.out _ HB1.out).mono ?_); rintro e w2 ⟨rfl, hb2⟩; have HB2 := Aside0.mk (Bl.then HB1.out hb2); clear hb2))
        go_returns
        exact ⟨HB2.out, .inl ⟨by first | rfl | trivial, rfl⟩⟩
      · have hif : next varF xs = some (d0, (xs.drop f1.toNat).take f0.toNat, xs.drop (f1 + f0).toNat) := by rw [hn]; exact if_neg (by rintro (h | h | h); exact h h2; exact h h3; exact h4 h)
        rw [hif]
        obtain ⟨v1, v2, r1, r2, hsl⟩ := cuts (A := A) hc f1 f0 (by omega) (by omega) (by omega)
        unfold top at a1 a2
        have z1 : 0 ≤ f1 := by omega
        have z2 : f1 ≤ xs.length := by omega
        have z3 : f1 + f0 ≤ xs.length := by omega
        have z4 : 0 ≤ f0 := by omega
        have HSL := Aside0.mk hsl
        unfold big at hl
        have ww : IntKind.i64.wrap (f1 + f0) = f1 + f0 := by rw [IntKind.wrap_i64]; omega
        clear hif h2 h3 hd hf hn hG hC hb a1 a2 hsl
        go_enter Tryd.func40, Tryd.ntmps40
        go_upto_region 5 with (first
          | (go_at_call 50; (with_reducible refine VC.out.mono ?_); rintro e w1 ⟨rfl, hb1⟩; have HB1 := Aside0.mk hb1; clear hb1 VC)
          | (go_at_call 50; (with_reducible refine (VR.out _ HB1.out).mono ?_); rintro e w2 ⟨rfl, hb2⟩; have HB2 := Aside0.mk (Bl.then HB1.out hb2); clear hb2))
        go_quiet (fail)
        go_wp2_with fail
        go_returns
        refine ⟨Bl.drewN HB2.out _, .inr ⟨_, _, _, v1, v2, rfl, rfl, fun W1 h1 => HSL.out W1 ?_⟩⟩
        obtain ⟨A', c', e, _, hC'⟩ := h1
        injection e with e1 _ e2
        rw [e1]
        exact hC'
    · have b2 : (d2 != 0) = false := by simp [h2]
      have b3 : (f2 != 0) = true := by simp [h3]
      have hif : next varF xs = none := by rw [hn]; exact if_pos (.inr (.inl h3))
      rw [hif]
      clear hif
      clear h2 h3 hd hf hn hG hC hb
      go_enter Tryd.func40, Tryd.ntmps40
      go_wp2_with (first
        | (go_at_call 50; (with_reducible refine VC.out.mono ?_); rintro e w1 ⟨rfl, hb1⟩; have HB1 := Aside0.mk hb1; clear hb1 VC)
        | (go_at_call 50; (with_reducible refine (VR.out _ HB1.out).mono ?_); rintro e w2 ⟨rfl, hb2⟩; have HB2 := Aside0.mk (Bl.then HB1.out hb2); clear hb2))
      go_returns
      exact ⟨HB2.out, .inl ⟨by first | rfl | trivial, rfl⟩⟩
  · have b2 : (d2 != 0) = true := by simp [h2]
    have hif : next varF xs = none := by rw [hn]; exact if_pos (.inl h2)
    rw [hif]
    clear hif
    clear h2 hd hf hn hG hC hb
    go_enter Tryd.func40, Tryd.ntmps40
    go_wp2_with (first
      | (go_at_call 50; (with_reducible refine VC.out.mono ?_); rintro e w1 ⟨rfl, hb1⟩; have HB1 := Aside0.mk hb1; clear hb1 VC)
      | (go_at_call 50; (with_reducible refine (VR.out _ HB1.out).mono ?_); rintro e w2 ⟨rfl, hb2⟩; have HB2 := Aside0.mk (Bl.then HB1.out hb2); clear hb2))
    go_returns
    exact ⟨HB2.out, .inl ⟨by first | rfl | trivial, rfl⟩⟩
end Go.Proofs.YtcidijmdndcdlaaDoor.Pr
