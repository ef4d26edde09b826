/- WheelOnce: the law's walk; no condition. -/
import Derived.Test.YtakmcbakogjeeaaWh19
import Derived.Test.YtakmcbakogjeeaaWMore
import Derived.Outline
set_option linter.unusedVariables false
set_option linter.unusedSimpArgs false
namespace Go.Proofs.Ytakmcbakogjeeaa.Wh
open Go Go.RowKit Go.Maps Go.Proofs.Ytakmcbakogjeeaa.Rm Go.Proofs.Ytakmcbakogjeeaa.Rw
open Go.Proofs.YtakmcbakogjeeaaW.PrintWords Go.Proofs.YtakmcbakogjeeaaW.PrintLast Go.Proofs.YtakmcbakogjeeaaW.PrintMore
abbrev inK : Kd Int := Kd.int .i64
theorem came_i {w : World} {A : Option Addr} {xs : List Int} {k : Nat} {x : Int} (h : Kd.C inK w A xs.length xs) (hk : xs[k]? = some x) : ∃ ad, A = some ad ∧ w.cell? (ad.add k) = some (.int .i64 x) := by
  have hlt := (List.getElem?_eq_some_iff.1 hk).1
  obtain ⟨ad, hA, hq⟩ := h.2.2 (by omega)
  obtain ⟨cs, _, hK, hcell⟩ := hq k x hk
  have e0 : cs = [.int .i64 x] := hK
  subst e0
  have := hcell 0 _ rfl
  simp only [Nat.add_zero] at this
  refine ⟨ad, hA, ?_⟩
  rw [show inK.sz = 1 from rfl, Nat.mul_one] at this
  exact this
/-- i timers are set. -/
structure Built (bg : Int) (L : List Tm) (i : Nat) (en : Int) : Prop where
  tms : Tms L
  len : L.length = i
  rng : ∀ t ∈ L, 0 ≤ t.1 ∧ t.1 < i ∧ bg ≤ t.2 ∧ t.2 ≤ en
  en0 : bg ≤ en
  en1 : en ≤ bg + 1099511627775
theorem Built.next {bg : Int} {L : List Tm} {i : Nat} {en a : Int} (h : Built bg L i en) (hb : 0 ≤ bg) (hb1 : bg ≤ 562949953421311) (hi : i < 5000) (h0 : bg ≤ a) (h1 : a ≤ bg + 1099511627775) : setV L i a = 0 ∧ Built bg (setL L i a) (i + 1) (max en a) := by
  have hw : without (i : Int) L = L := without_self (fun t ht e => by have := (h.rng t ht).2.1; omega)
  have hv : setV L i a = 0 := by
    unfold setV
    rw [if_neg (by omega), if_neg (fun hh => by have := h.len; omega)]
  have hs : setL L i a = insT ((i : Int), a) L := by
    unfold setL
    rw [hv, if_pos rfl, hw]
  rw [hs]
  refine ⟨hv, ⟨h.tms.ins (fun t ht e => by have := (h.rng t ht).2.1; simp only at e; omega) (by simp only; omega) (by simp only; omega), by rw [insT_len, h.len], fun t ht => ?_, by have := h.en0; omega, by have := h.en1; omega⟩⟩
  rcases insT_mem.1 ht with rfl | ht
  · simp only; omega
  · obtain ⟨r1, r2, r3, r4⟩ := h.rng t ht
    omega
/-- 'append' behind a guard that holds, where its run is known. -/
theorem wpList_app_run_g {P : Program} (w : World) {ops : Array Oper} {rest : List Oper} {o : Oper} {a : Act} {Q : Exit → Act → World → Prop} (hw : Region.wanted o (yielded ops a.tmps) = true) (s y : Operand) (t : TypeId)
    (ho : o.op = .call { callee := .builtin .append, args := #[s, y], argTypes := #[t, t] }) (v u : Value) (hs : a.eval s = v) (hy : a.eval y = u) {v1 : Value} {w1 : World}
    (hr : ∀ ty, (Builtin.append_ #[t, t] ty #[v, u]).run P w = .ok v1 w1) (h : wpList P ops Q rest (a.put o.dst v1) w1) : wpList P ops Q (o :: rest) a w := by
  refine wpList_step fun K hK => ?_
  rw [if_pos hw]
  have hr' := hr o.type
  unfold Oper.wp execOp
  simp only [ho, resolve, invoke, builtin, Sem.run_bind, Sem.run_pure, Result.andThen_ok, List.map_toArray, List.map_cons, List.map_nil, hs, hy, hr']
  exact hK _ _ h
/-- The passings under way: A is told, B is left. -/
def OnceRel (w : World) (ba pa bb pb : Nat) (bg en : Int) (L : List Tm) (N : Nat) (sv nv iv : Value) (W : World) : Prop :=
  ∃ (j : Nat) (nw : Int) (A B : List Tm) (G : Option Addr) (c : Nat), sv = .slice G (A.map (·.1)).length c ∧ nv = .int .i64 nw ∧ iv = .int .i64 j ∧ j ≤ N ∧ L = A ++ B ∧ (∀ t ∈ A, t.2 ≤ nw) ∧ bg ≤ nw ∧ nw ≤ en ∧ Two w ba pa ba bb pb bb nw B bg L W ∧ IntsAt W w.heap.size (.slice G (A.map (·.1)).length c) (A.map (·.1))
theorem due_ahead {nw : Int} : ∀ {L : List Tm}, L.Pairwise lt → L = dueL nw L ++ ahead nw L
  | [], _ => rfl
  | t :: l, h => by
    obtain ⟨h1, h2⟩ := List.pairwise_cons.1 h
    by_cases ht : t.2 ≤ nw
    · have e1 : dueL nw (t :: l) = t :: dueL nw l := by unfold dueL; rw [List.filter_cons, if_pos (by simpa using ht)]
      have e2 : ahead nw (t :: l) = ahead nw l := by unfold ahead; rw [List.filter_cons, if_neg (by simp; omega)]
      rw [e1, e2, List.cons_append, ← due_ahead h2]
    · have e1 : dueL nw (t :: l) = [] := List.filter_eq_nil_iff.2 (fun x hx => by
        rcases List.mem_cons.1 hx with rfl | hx
        · simpa using ht
        · have := h1 x hx
          unfold lt at this
          simp
          omega)
      have e2 : ahead nw (t :: l) = t :: l := List.filter_eq_self.2 (fun x hx => by
        rcases List.mem_cons.1 hx with rfl | hx
        · simp; omega
        · have := h1 x hx
          unfold lt at this
          simp
          omega)
      rw [e1, e2, List.nil_append]
theorem once_fin {w wr W3 W4 : World} {b p m b2 p2 m2 : Nat} {n1 n2 : Int} {L1 L2 : List Tm} {G G3 G4 : Option Addr} {c c3 c4 : Nat} {KA KB KL : List Int} (hK : KA ++ KB = KL) (hl : KL.length ≤ 5000)
    (h0 : IntsAt wr w.heap.size (.slice G KA.length c) KA) (l1 : Lk wr W3) (i1 : IntsAt W3 wr.heap.size (.slice G3 KB.length c3) KB) (t2 : Two w b p m b2 p2 m2 n1 L1 n2 L2 W4) (l2 : Lk W3 W4) (i4 : IntsAt W4 W3.heap.size (.slice G4 KL.length c4) KL) :
    ∃ G5 c5 w5, (∀ ty, (Builtin.append_ #[34, 34] ty #[.slice G KA.length c, .slice G3 KB.length c3]).run Try.prog W4 = .ok (.slice G5 KL.length c5) w5) ∧ Two w b2 p2 m2 b p m n2 L2 n1 L1 w5 ∧
      Calls Try.prog 44 #[.slice G5 KL.length c5, .slice G4 KL.length c4] w5 fun e w' => e = .returned (.bool true) ∧ ∃ j, w' = w5.drewN j := by
  have hs0 := l2.ints (l1.ints h0)
  have hlen : KA.length + KB.length = KL.length := by rw [← hK, List.length_append]
  obtain ⟨G5, c5, w5, z1, z2, z3⟩ := run_appi hs0 (l2.ints i1) t2.2.2.2.2.2.size (by omega)
  rw [hlen] at z1 z2
  rw [hK] at z2
  refine ⟨G5, c5, w5, z1, (t2.ints hs0 z3).swap, same_s z2 (b2 := W3.heap.size) (own_move i4 (fun k hk => z3.block k ?_ (fun e => ?_))) (by omega)⟩
  · obtain ⟨cs, hc⟩ := own_typed i4 k hk
    exact (Array.getElem?_eq_some_iff.1 hc).1
  · have h4 : W3.heap.size ≤ k := by
      rcases i4.2 with ⟨e1, _⟩ | ⟨g, cap, cur, e1, e2, _⟩
      · rw [e1] at hk; cases hk
      · rw [e1] at hk; simp [Value.ownBlock] at hk; omega
    obtain ⟨cs, hc⟩ := own_typed (l1.ints h0) k e.symm
    have := (Array.getElem?_eq_some_iff.1 hc).1
    omega
set_option maxRecDepth 100000 in
set_option maxHeartbeats 3200000 in
theorem once_walk (x0 : Int) (A1 A2 : Option Addr) (ts ss : List Int) (c1 c2 : Nat) (w : World) (hr1 : Kd.C inK w A1 ts.length ts) (hl1 : ts.length ≤ 140737488355328) (hr2 : Kd.C inK w A2 ss.length ss) (hl2 : ss.length ≤ 140737488355328) :
    Calls Try.prog 10 #[.int .i64 x0, .slice A1 ts.length c1, .slice A2 ss.length c2] w fun e w' => e = .returned (.bool true) ∧ Below w.heap.size w w' := by
  have HR := Aside0.mk (And.intro hr1 hr2)
  clear hr1 hr2
  obtain ⟨bg, hbg⟩ : ∃ bg, bits .and .i64 x0 562949953421311 = bg := ⟨_, rfl⟩
  have hb1 := mask_le x0 562949953421311 (by omega)
  rw [show ((562949953421311 : Nat) : Int) = 562949953421311 from rfl, hbg] at hb1
  obtain ⟨n, hn⟩ : ∃ n : Nat, min ts.length 5000 = n := ⟨_, rfl⟩
  have hmin := run_min2 (ts.length : Int) 5000
  rw [show min (ts.length : Int) 5000 = (n : Int) by omega] at hmin
  have hn1 : n ≤ ts.length ∧ n ≤ 5000 := by omega
  have N1 := Aside0.mk (fun W => new_l W bg hb1.1 (by omega))
  go_enter Try.func10, Try.ntmps10
  go_wp2_with (first
    | (go_at_call 32; (first | (with_reducible refine (N1.out w).mono ?_; rintro e w1 ⟨rfl, hs, hb⟩; have H0 := Aside0.mk (And.intro hs hb); clear hs hb) | (with_reducible refine (N1.out w1).mono ?_; rintro e w2 ⟨rfl, hs, hb⟩; have H1 := Aside0.mk (two_new (Below.refl w.heap.size w) H0.out.1 H0.out.2 hs hb); clear hs hb H0))))
  clear hbg hmin
  obtain ⟨pa, hpa⟩ : ∃ pa, w.heap.size + 1 = pa := ⟨_, rfl⟩
  obtain ⟨ba, hba⟩ : ∃ ba, w.heap.size = ba := ⟨_, rfl⟩
  obtain ⟨pb, hpb⟩ : ∃ pb, w1.heap.size + 1 = pb := ⟨_, rfl⟩
  obtain ⟨bb, hbb⟩ : ∃ bb, w1.heap.size = bb := ⟨_, rfl⟩
  rw [hpb, hbb, hpa, hba] at H1
  simp only [hpb, hpa]
  clear N1 hpb hbb hpa hn
  have hWs := Aside0.mk hba
  go_loopw [12, 13] (fun ev iv W' => ∃ (i : Nat) (en : Int) (L : List Tm), ev = .int .i64 en ∧ iv = .int .i64 i ∧ i ≤ n ∧ Built bg L i en ∧ Two w ba pa ba bb pb bb bg L bg L W') (fun _ iv _ => n - (intOf iv).toNat)
  case atStart => exact ⟨0, bg, [], rfl, rfl, Nat.zero_le _, ⟨Tms.nil, rfl, (fun t ht => by cases ht), Int.le_refl _, by omega⟩, H1.out⟩
  case round =>
    clear H1
    obtain ⟨i, en, L, rfl, rfl, hi, hbu, htw⟩ := hrel
    have HT := Aside0.mk htw
    have HB := Aside0.mk hbu
    by_cases hlt : i < n
    · as_aux_lemma =>
        obtain ⟨x, hx⟩ : ∃ x, ts[i]? = some x := ⟨_, List.getElem?_eq_getElem (by omega)⟩
        obtain ⟨ad, hA1, g0⟩ := came_i HR.out.1 hx
        subst hA1
        have e0 := pw_cell_below htw.2.2.2.2.2 g0
        obtain ⟨k, hk⟩ : ∃ k, bits .and .i64 x 1099511627775 = k := ⟨_, rfl⟩
        have hk1 := mask_le x 1099511627775 (by omega)
        rw [show ((1099511627775 : Nat) : Int) = 1099511627775 from rfl, hk] at hk1
        clear hbu htw g0 hx
        go_upto_region 12 with fail
        obtain ⟨q, hq⟩ : ∃ q, k / 2 ^ (i % 41) = q := ⟨_, rfl⟩
        have hq1 : 0 ≤ q ∧ q ≤ k := by
          have hp : (0 : Int) < 2 ^ (i % 41) := Int.pow_pos (by decide)
          rw [← hq]
          exact ⟨Int.ediv_nonneg hk1.1 (by omega), Int.ediv_le_self _ hk1.1⟩
        obtain ⟨a, ha⟩ : ∃ a, bg + q = a := ⟨_, rfl⟩
        rw [hq, show wrap64 (bg + q) = a from by unfold wrap64; omega]
        obtain ⟨v0, v1⟩ := HB.out.next hb1.1 hb1.2 (by omega) (show bg ≤ a by omega) (by omega)
        have HV := Aside0.mk v1
        have hwf : (Lit.int .i64 (i : Int)).wf = true := wf_of (by omega) (by omega)
        have C1 := Aside0.mk (fun W (h : Two w ba pa ba bb pb bb bg L bg L W) => two_set (k := i) (a := a) h hwf)
        have C2 := Aside0.mk (fun W (h : Two w ba pa ba bb pb bb bg (setL L i a) bg L W) => two_set (k := i) (a := a) h.swap hwf)
        have C3 := Aside0.mk (fun W (h : Two w ba pa ba bb pb bb bg (setL L i a) bg (setL L i a) W) => two_len h)
        rw [v0] at C1 C2
        have hlen := v1.len
        rw [hlen] at C3
        have hmax := run_max2 en a
        obtain ⟨mx, hmx⟩ : ∃ mx, max en a = mx := ⟨_, rfl⟩
        rw [hmx] at hmax HV
        clear hq hmx v0 v1 hlen e0 hk
        go_wp2_with (first
          | (go_at_call 33; (with_reducible refine (C1.out _ HT.out).mono ?_); rintro e w3 ⟨rfl, hs, hl⟩; have H2 := Aside0.mk hs; clear hs hl HT)
          | (go_at_call 33; (with_reducible refine (C2.out _ H2.out).mono ?_); rintro e w3 ⟨rfl, hs, hl⟩; have H3 := Aside0.mk hs.swap; clear hs hl H2)
          | (go_at_call 34; (with_reducible refine (C3.out _ H3.out).mono ?_); rintro e w3 ⟨rfl, rfl⟩))
        exact ⟨⟨i + 1, _, _, rfl, by simp, by omega, HV.out, H3.out⟩, by simp [intOf]; omega⟩
    · obtain rfl : i = n := by omega
      clear hbu htw
      have HEN := Aside0.mk (And.intro HB.out.en0 HB.out.en1)
      have hen := And.intro HB.out.en0 HB.out.en1
      have hw0 := HT.out.1
      go_wp2_with fail
      go_loopw [15, 16, 17] (fun sv nv iv W' => OnceRel w ba pa bb pb bg en L ss.length sv nv iv W') (fun _ _ iv _ => ss.length - (intOf iv).toNat)
      case atStart => exact ⟨0, bg, [], L, none, 0, rfl, rfl, rfl, Nat.zero_le _, rfl, (fun t ht => by cases ht), Int.le_refl _, HEN.out.1, HT.out, World.ownsRow_nil _ _ _ _⟩
      case round =>
        clear HT
        obtain ⟨j, nw, A, B, G, c, rfl, rfl, rfl, hj, hAB, hA, hn0, hn2, htw, hsm⟩ := hrel
        have HT := Aside0.mk (And.intro htw hsm)
        have HAB := Aside0.mk (And.intro hAB hA)
        clear hAB hA
        by_cases hgo : j < ss.length ∧ nw < en
        · obtain ⟨hjl, hnl⟩ := hgo
          obtain ⟨x, hx⟩ : ∃ x, ss[j]? = some x := ⟨_, List.getElem?_eq_getElem hjl⟩
          obtain ⟨ad, hA2, g0⟩ := came_i HR.out.2 hx
          subst hA2
          have e0 := pw_cell_below htw.2.2.2.2.2 g0
          obtain ⟨k, hk⟩ : ∃ k, bits .and .i64 x 1099511627775 = k := ⟨_, rfl⟩
          have hk1 := mask_le x 1099511627775 (by omega)
          rw [show ((1099511627775 : Nat) : Int) = 1099511627775 from rfl, hk] at hk1
          obtain ⟨mn, hmn⟩ : ∃ mn : Int → Int, ∀ y, min en y = mn y := ⟨fun y => min en y, fun _ => rfl⟩
          have hmin := fun y W => run_min2 en y W
          simp only [hmn] at hmin
          clear htw hsm g0 hx
          go_upto_region 21 with fail
          obtain ⟨q, hq⟩ : ∃ q, k / 2 ^ (j % 41) = q := ⟨_, rfl⟩
          have hq1 : 0 ≤ q ∧ q ≤ k := by
            have hp : (0 : Int) < 2 ^ (j % 41) := Int.pow_pos (by decide)
            rw [← hq]
            exact ⟨Int.ediv_nonneg hk1.1 (by omega), Int.ediv_le_self _ hk1.1⟩
          obtain ⟨nx, hnx⟩ : ∃ nx, mn (nw + q) = nx := ⟨_, rfl⟩
          have hnx1 : nw ≤ nx ∧ nx ≤ en := by have := hmn (nw + q); omega
          rw [hq, show wrap64 (nw + q) = nw + q from by unfold wrap64; omega, hnx]
          clear hq hnx hmin hmn hk e0
          have CP := Aside0.mk (fun W (h : Two w ba pa ba bb pb bb nw B bg L W) => two_pass (nw := nx) h (by omega) (by omega) hnx1.1)
          obtain ⟨D, hD⟩ : ∃ D, dueL nx B = D := ⟨_, rfl⟩
          obtain ⟨B2, hB2⟩ : ∃ B2, ahead nx B = B2 := ⟨_, rfl⟩
          have hBs : B.Pairwise lt := by
            have := HB.out.tms.srt
            rw [HAB.out.1] at this
            exact (List.pairwise_append.1 this).2.1
          have hsp := due_ahead (nw := nx) hBs
          rw [hD, hB2] at hsp CP
          have hD1 : ∀ t ∈ D, t.2 ≤ nx := fun t ht => by rw [← hD] at ht; simpa using (List.mem_filter.1 ht).2
          have hB1 : ∀ t ∈ B2, nx < t.2 := fun t ht => by rw [← hB2] at ht; simpa using (List.mem_filter.1 ht).2
          have hDL : ∀ t ∈ D, t ∈ L := fun t ht => by rw [HAB.out.1, hsp]; exact List.mem_append_right _ (List.mem_append_left _ ht)
          have hlenL := HB.out.len
          have hlens : A.length + D.length ≤ 5000 := by
            have e := congrArg List.length HAB.out.1
            rw [hsp, List.length_append, List.length_append] at e
            omega
          have HSP := Aside0.mk (And.intro hsp (And.intro hD1 (And.intro hB1 hDL)))
          obtain ⟨KD, hKD⟩ : ∃ KD, D.map (·.1) = KD := ⟨_, rfl⟩
          have HKL := Aside0.mk (show KD.length = D.length by rw [← hKD, List.length_map])
          have HKD := Aside0.mk hKD
          have hK5 : KD.length ≤ 5000 := by have := HKL.out; omega
          rw [hKD] at CP
          clear hsp hD1 hB1 hDL hD hB2 hBs hKD
          have NV := Aside0.mk (show (nextT B2).2 = false ∨ ((nextT B2).2 = true ∧ nx < (nextT B2).1) from by
            cases hb : B2 with
            | nil => exact .inl rfl
            | cons t l => exact .inr ⟨rfl, HSP.out.2.2.1 t (by rw [hb]; exact List.mem_cons_self)⟩)
          obtain ⟨na, hna⟩ : ∃ na, (nextT B2).1 = na := ⟨_, rfl⟩
          obtain ⟨nk, hnk⟩ : ∃ nk, (nextT B2).2 = nk := ⟨_, rfl⟩
          have CX := Aside0.mk (fun W (h : Two w ba pa ba bb pb bb nx B2 bg L W) => two_next h)
          rw [hna, hnk] at CX NV
          go_wp2_with (go_at_call 37; (with_reducible refine (CP.out _ HT.out.1).mono ?_); rintro e w3 ⟨G3, c3, rfl, hs, hi, hl⟩; have H3 := Aside0.mk (And.intro hs (And.intro hi (hl.ints HT.out.2))); clear hs hi hl)
          go_loopw [20] (fun kv_ W' => ∃ q : Nat, kv_ = .int .i64 q ∧ q ≤ KD.length ∧ W' = w3) (fun kv_ _ => KD.length - (intOf kv_).toNat)
          case atStart => exact ⟨0, rfl, Nat.zero_le _, rfl⟩
          case round =>
            obtain ⟨q, rfl, hq, rfl⟩ := hrel
            by_cases hql : q < KD.length
            · as_aux_lemma =>
                obtain ⟨t, ht⟩ : ∃ t, D[q]? = some t := ⟨_, List.getElem?_eq_getElem (by have := HKL.out; omega)⟩
                have htL := HSP.out.2.2.2 t (List.mem_of_getElem? ht)
                have ht2 := HSP.out.2.1 t (List.mem_of_getElem? ht)
                have hkq : KD[q]? = some t.1 := by rw [← HKD.out, List.getElem?_map, ht]; rfl
                obtain ⟨g3, hg3, k0⟩ := ints_get H3.out.2.1 hkq
                subst hg3
                obtain ⟨r1, r2, _, _⟩ := HB.out.rng t htL
                have CA := Aside0.mk (two_at (k := t.1) H3.out.1.swap (wf_of (by omega) (by omega)))
                have hf : findT t.1 L = some t.2 := (find_some HB.out.tms.key).1 htL
                rw [hf] at CA
                simp only [Option.getD_some, Option.isSome_some] at CA
                clear ht htL hkq hf
                go_wp2_with (go_at_call 35; (with_reducible refine CA.out.mono ?_); rintro e w4 ⟨rfl, rfl⟩)
                exact ⟨⟨q + 1, by simp, by omega, by first | rfl | trivial⟩, by simp [intOf]; omega⟩
            · obtain rfl : q = KD.length := by omega
              as_aux_lemma =>
                have hbs := H3.out.1.2.2.2.2.2.size
                obtain ⟨G4, c4, w4, z1, z2, z3⟩ := run_appi H3.out.2.2 H3.out.2.1 hbs (by rw [List.length_map]; have := HKL.out; omega)
                have HZ := Aside0.mk (And.intro z2 (H3.out.1.ints H3.out.2.2 z3))
                clear z2 z3
                simp only [List.length_map] at z1
                rcases NV.out with hv | ⟨hv, hva⟩
                all_goals
                  subst hv
                  go_wp2_with (first
                    | ((with_reducible refine gate_builtin (b := .append) (xs := #[.tmp 150, .tmp 151]) rfl ?_); at_builtin; refine wpList_app_run _ rfl _ _ 34 rfl _ _ rfl rfl z1 ?_)
                    | (go_at_call 38; (with_reducible refine (CX.out _ HZ.out.2).mono ?_); rintro e w5 ⟨rfl, hb5⟩; have H5 := Aside0.mk (And.intro (HZ.out.2.below hb5) ((Lk.of_below hb5).ints HZ.out.1)); clear hb5))
                  have e9 : (A ++ D).map (·.1) = A.map (·.1) ++ KD := by rw [List.map_append, HKD.out]
                  have e8 : ((A ++ D).map (·.1)).length = A.length + KD.length := by rw [e9, List.length_append, List.length_map]
                  exact ⟨⟨j + 1, nx, A ++ D, B2, G4, c4, by rw [e8], rfl, by simp, by omega, by rw [List.append_assoc, ← HSP.out.1]; exact HAB.out.1, (fun t ht => by
                    rcases List.mem_append.1 ht with ht | ht
                    · have := HAB.out.2 t ht; omega
                    · exact HSP.out.2.1 t ht), by omega, hnx1.2, H5.out.1, by
                      rw [e8, e9]
                      have := H5.out.2
                      simp only [List.length_map] at this
                      exact this⟩, by simp [intOf]; omega⟩
        · clear htw hsm
          have hend : (j = ss.length) ∨ (j < ss.length ∧ en ≤ nw) := by
            by_cases h : j < ss.length
            · exact .inr ⟨h, by omega⟩
            · exact .inl (by omega)
          clear hgo
          have hLen : ∀ t ∈ L, t.2 ≤ en := fun t ht => (HB.out.rng t ht).2.2.2
          have hBen : ∀ t ∈ B, t.2 ≤ en := fun t ht => hLen t (by rw [HAB.out.1]; exact List.mem_append_right _ ht)
          have e1 : dueL en B = B := List.filter_eq_self.2 (fun t ht => decide_eq_true (hBen t ht))
          have e2 : ahead en B = [] := List.filter_eq_nil_iff.2 (fun t ht => by have := hBen t ht; simp; omega)
          have e3 : dueL en L = L := List.filter_eq_self.2 (fun t ht => decide_eq_true (hLen t ht))
          have e4 : ahead en L = [] := List.filter_eq_nil_iff.2 (fun t ht => by have := hLen t ht; simp; omega)
          have P1 := Aside0.mk (two_pass (nw := en) HT.out.1 (by omega) (by omega) hn2)
          have P2 := Aside0.mk (fun W (h : Two w ba pa ba bb pb bb en [] bg L W) => two_pass (nw := en) h.swap (by omega) (by omega) hen.1)
          rw [e1, e2] at P1
          rw [e3, e4] at P2
          have CLn := Aside0.mk (fun W (h : Two w ba pa ba bb pb bb en [] en [] W) => two_len h)
          obtain ⟨KA, hKA⟩ : ∃ KA, A.map (·.1) = KA := ⟨_, rfl⟩
          obtain ⟨KB, hKB⟩ : ∃ KB, B.map (·.1) = KB := ⟨_, rfl⟩
          obtain ⟨KL, hKL⟩ : ∃ KL, L.map (·.1) = KL := ⟨_, rfl⟩
          have hK : KA ++ KB = KL := by rw [← hKA, ← hKB, ← hKL, HAB.out.1, List.map_append]
          have hlL : KL.length = i := by rw [← hKL, List.length_map]; exact HB.out.len
          have hKs : KA.length + KB.length = KL.length := by rw [← hK, List.length_append]
          rw [hKB] at P1
          rw [hKL] at P2
          rw [hKA] at HT
          have hnum : KL.length ≤ 5000 := by omega
          have HKK := Aside0.mk (And.intro hK (And.intro hlL hKs))
          have F1 := Aside0.mk (fun W3 W4 (G3 G4 : Option Addr) (c3 c4 : Nat) (l1 : Lk wr W3) (i1 : IntsAt W3 wr.heap.size (.slice G3 KB.length c3) KB) (t2 : Two w bb pb bb ba pa ba en [] en [] W4) (l2 : Lk W3 W4) (i4 : IntsAt W4 W3.heap.size (.slice G4 KL.length c4) KL) =>
            once_fin HKK.out.1 hnum HT.out.2 l1 i1 t2 l2 i4)
          rw [hKA]
          have hKi : ((KL.length : Int) == (i : Int)) = true := beq_iff_eq.2 (by omega)
          clear e1 e2 e3 e4 hLen hBen hK hlL hKs hKA hKB hKL
          rcases hend with rfl | ⟨hend, hend2⟩
          all_goals
            go_wp2_with (first
              | (go_at_call 37; (with_reducible refine P1.out.mono ?_); rintro e w3 ⟨G3, c3, rfl, hs, hi, hl⟩; have H3 := Aside0.mk hs; have H3i := Aside0.mk (And.intro hi hl); clear hs hi hl P1)
              | (go_at_call 37; (with_reducible refine (P2.out _ H3.out).mono ?_); rintro e w4 ⟨G4, c4, rfl, hs, hi, hl⟩; obtain ⟨G5, c5, w5, z1, z2, z3⟩ := F1.out _ _ _ _ _ _ H3i.out.2 H3i.out.1 hs hl hi; have H4 := Aside0.mk z2; have CSm := Aside0.mk z3; clear hs hi hl z2 z3)
              | ((with_reducible refine gate_builtin (b := .append) (xs := #[.tmp 183, .tmp 184]) rfl ?_); refine wpList_app_run_g _ (by rfl) _ _ 34 rfl _ _ rfl rfl z1 ?_)
              | (go_at_call 44; (with_reducible refine CSm.out.mono ?_); rintro e w6 ⟨rfl, jd, rfl⟩)
              | (go_at_call 34; (with_reducible refine (CLn.out _ (H4.out.below (Ib.bl_drewN _))).mono ?_); rintro e w7 ⟨rfl, rfl⟩))
            go_ret
            exact ⟨rfl, (H4.out.below (Ib.bl_drewN _)).2.2.2.2.2⟩
end Go.Proofs.Ytakmcbakogjeeaa.Wh
