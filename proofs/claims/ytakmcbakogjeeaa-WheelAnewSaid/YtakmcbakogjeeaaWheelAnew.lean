/- WheelAnew: the law's walk; no condition. -/
import Derived.Test.YtakmcbakogjeeaaWh18
set_option linter.unusedVariables false
set_option linter.unusedSimpArgs false
namespace Go.Proofs.Ytakmcbakogjeeaa.Wh
open Go Go.RowKit Go.Maps Go.Proofs.Ytakmcbakogjeeaa.Rm Go.Proofs.Ytakmcbakogjeeaa.Rw
open Go.Proofs.YtakmcbakogjeeaaW.PrintWords Go.Proofs.YtakmcbakogjeeaaW.PrintLast Go.Proofs.YtakmcbakogjeeaaW.PrintMore
theorem wf5 : (Lit.int .i64 5).wf = true := wf_of (by decide) (by decide)
theorem an_set (w : World) (b p m : Nat) (now a : Int) (L : List Tm) (hL : ∀ t ∈ L, t.1 = 5) (hl : L.length ≤ 1) (a0 : 0 ≤ a) (a1 : a ≤ 1099511627775) : ∀ W, St w b p m now L W →
    Calls Try.prog 33 #[.pointer (some ⟨p, 0, none⟩), .int .i64 5, .int .i64 a] W fun e w' => e = .returned (.int .i64 0) ∧ St w b p m now [(5, a)] w' := by
  intro W h
  have hv : setV L 5 a = 0 := by
    unfold setV
    rw [if_neg (by omega), if_neg (by omega)]
  have hw : without 5 L = [] := by
    unfold without
    rw [List.filter_eq_nil_iff]
    intro t ht
    simp [hL t ht]
  have hs : setL L 5 a = [(5, a)] := by
    unfold setL
    rw [hv, if_pos rfl, hw]
    rfl
  have := st_set (k := 5) (a := a) h wf5
  rw [hv, hs] at this
  exact this
theorem an_stop (w : World) (b p m : Nat) (now s : Int) : ∀ W, St w b p m now [(5, s)] W →
    Calls Try.prog 36 #[.pointer (some ⟨p, 0, none⟩), .int .i64 5] W fun e w' => e = .returned (.bool true) ∧ St w b p m now [] w' := by
  intro W h
  exact st_stop (k := 5) h wf5
theorem an_stop2 (w : World) (b p m : Nat) (now : Int) : ∀ W, St w b p m now [] W →
    Calls Try.prog 36 #[.pointer (some ⟨p, 0, none⟩), .int .i64 5] W fun e w' => e = .returned (.bool false) ∧ St w b p m now [] w' := by
  intro W h
  exact st_stop (k := 5) h wf5
theorem an_at (w : World) (b p m : Nat) (now s : Int) : ∀ W, St w b p m now [(5, s)] W →
    Calls Try.prog 35 #[.pointer (some ⟨p, 0, none⟩), .int .i64 5] W fun e w' => e = .returned (.tuple #[.int .i64 s, .bool true]) ∧ W = w' := by
  intro W h
  exact st_at (k := 5) h wf5
/-- A passing short of a time, or to it. -/
theorem an_pass (w : World) (b p m : Nat) (now nw : Int) (L : List Tm) (D : List Int) (L2 : List Tm) (h0 : 0 ≤ nw) (h1 : nw ≤ 1125899906842624) (hle : now ≤ nw) (hD : (dueL nw L).map (·.1) = D) (hL2 : ahead nw L = L2) : ∀ W, St w b p m now L W →
    Calls Try.prog 37 #[.pointer (some ⟨p, 0, none⟩), .int .i64 nw] W fun e w' => ∃ G c, e = .returned (.tuple #[.slice G D.length c, .int .i64 0]) ∧ St w b p m nw L2 w' ∧ IntsAt w' W.heap.size (.slice G D.length c) D := by
  intro W h
  have e : passV now nw = 0 := by unfold passV; rw [if_neg (by omega), if_neg (by omega)]
  have := st_pass h nw
  unfold passD passL passN at this
  rw [e, if_pos rfl, if_pos rfl, if_pos rfl, hD, hL2] at this
  exact this
theorem one_key {W : World} {b : Nat} {G : Option Addr} {c : Nat} {k : Int} (h : IntsAt W b (.slice G 1 c) [k]) : ∃ g, G = some ⟨g, 0, none⟩ ∧ W.cell? ⟨g, 0, none⟩ = some (.int .i64 k) := by
  rcases h.2 with ⟨h1, h2⟩ | ⟨g, cap, cur, h1, _, hb, _, _, hs, ht⟩
  · cases h2
  · injection h1 with h1 _ _
    refine ⟨g, h1, ?_⟩
    rw [cell_of_row _ _ _ _ _ _ hb]
    have h0 : (cur.toList.take 1)[0]? = some (.int .i64 k) := by
      simp only [List.length_singleton, Nat.one_mul, List.map_cons, List.map_nil] at ht
      rw [ht]
      rfl
    rw [List.getElem?_take, if_pos (by decide)] at h0
    simpa using h0
theorem due_one {s nw : Int} (h : s ≤ nw) : (dueL nw [(5, s)]).map (·.1) = [5] := by
  have : dueL nw [(5, s)] = [(5, s)] := List.filter_eq_self.2 (fun t ht => by rw [List.mem_singleton.1 ht]; exact decide_eq_true h)
  rw [this]
  rfl
theorem ahead_none {s nw : Int} (h : s ≤ nw) : ahead nw [(5, s)] = [] := List.filter_eq_nil_iff.2 (fun t ht => by rw [List.mem_singleton.1 ht]; simpa using h)
theorem due_none {s nw : Int} (h : nw < s) : (dueL nw [(5, s)]).map (·.1) = [] := by
  have : dueL nw [(5, s)] = [] := List.filter_eq_nil_iff.2 (fun t ht => by rw [List.mem_singleton.1 ht]; simpa using h)
  rw [this]
  rfl
theorem ahead_one {s nw : Int} (h : nw < s) : ahead nw [(5, s)] = [(5, s)] := List.filter_eq_self.2 (fun t ht => by rw [List.mem_singleton.1 ht]; exact decide_eq_true h)
set_option maxRecDepth 100000 in
set_option maxHeartbeats 3200000 in
theorem anew_walk (x0 x1 : Int) (stops : Bool) (w : World) : Calls Try.prog 7 #[.int .i64 x0, .int .i64 x1, .bool stops] w fun e w' => e = .returned (.bool true) ∧ Below w.heap.size w w' := by
  obtain ⟨f, hf⟩ : ∃ f, bits .and .i64 x0 1099511627775 = f := ⟨_, rfl⟩
  obtain ⟨s, hs⟩ : ∃ s, bits .and .i64 x1 1099511627775 = s := ⟨_, rfl⟩
  have hf1 := mask_le x0 1099511627775 (by omega)
  have hs1 := mask_le x1 1099511627775 (by omega)
  rw [show ((1099511627775 : Nat) : Int) = 1099511627775 from rfl, hf] at hf1
  rw [show ((1099511627775 : Nat) : Int) = 1099511627775 from rfl, hs] at hs1
  have CNew := Aside0.mk (st_new (w := w) 0 (by decide) (by decide) (Below.refl w.heap.size w))
  obtain ⟨p, hp⟩ : ∃ p, w.heap.size + 1 = p := ⟨_, rfl⟩
  obtain ⟨b, hb⟩ : ∃ b, w.heap.size = b := ⟨_, rfl⟩
  rw [hp, hb] at CNew
  obtain ⟨mx, hmx⟩ : ∃ mx, max f s = mx := ⟨_, rfl⟩
  have hmax := run_max2 f s
  rw [hmx] at hmax
  have hmx1 : f ≤ mx ∧ s ≤ mx ∧ mx ≤ 1099511627775 := by omega
  have C1 := Aside0.mk (an_set w b p b 0 f [] (fun t ht => by cases ht) (by simp) hf1.1 hf1.2)
  have C2 := Aside0.mk (an_set w b p b 0 s [(5, f)] (fun t ht => by rw [List.mem_singleton.1 ht]) (by simp) hs1.1 hs1.2)
  have C3 := Aside0.mk (an_at w b p b 0 s)
  have C4 := Aside0.mk (an_stop w b p b 0 s)
  have C5 := Aside0.mk (an_stop2 w b p b 0)
  have CL := Aside0.mk (fun now L W (h : St w b p b now L W) => st_len h)
  have e1 : IntKind.i64.wrap (s - 1) = s - 1 := by rw [IntKind.wrap_i64]; omega
  clear hp hb hmx
  cases stops with
  | true =>
    by_cases hpos : 0 < s
    · as_aux_lemma =>
        have P1 := Aside0.mk (an_pass w b p b 0 (s - 1) [] [] [] (by omega) (by omega) (by omega) rfl rfl)
        have P2 := Aside0.mk (an_pass w b p b (s - 1) mx [] [] [] (by omega) (by omega) (by omega) rfl rfl)
        go_enter Try.func7, Try.ntmps7
        go_wp2_with (first
          | (go_at_call 32; (with_reducible refine CNew.out.mono ?_); rintro e w1 ⟨rfl, hs⟩; have H0 := Aside0.mk hs; clear hs)
          | (go_at_call 33; (with_reducible refine (C1.out _ H0.out).mono ?_); rintro e w1 ⟨rfl, hs⟩; have H1 := Aside0.mk hs; clear hs H0)
          | (go_at_call 33; (with_reducible refine (C2.out _ H1.out).mono ?_); rintro e w1 ⟨rfl, hs⟩; have H2 := Aside0.mk hs; clear hs H1)
          | (go_at_call 34; (first | (with_reducible refine (CL.out _ _ _ H2.out).mono ?_) | (with_reducible refine (CL.out _ _ _ H3.out).mono ?_) | (with_reducible refine (CL.out _ _ _ H4.out).mono ?_) | (with_reducible refine (CL.out _ _ _ H6.out).mono ?_)); rintro e w1 ⟨rfl, rfl⟩)
          | (go_at_call 35; (with_reducible refine (C3.out _ H2.out).mono ?_); rintro e w1 ⟨rfl, rfl⟩)
          | (go_at_call 36; (with_reducible refine (C4.out _ H2.out).mono ?_); rintro e w1 ⟨rfl, hs⟩; have H3 := Aside0.mk hs; clear hs H2)
          | (go_at_call 36; (with_reducible refine (C5.out _ H3.out).mono ?_); rintro e w1 ⟨rfl, hs⟩; have H4 := Aside0.mk hs; clear hs H3)
          | (go_at_call 37; (with_reducible refine (P1.out _ H4.out).mono ?_); rintro e w1 ⟨G, c, rfl, hs, hi⟩; have H5 := Aside0.mk hs; clear hs hi H4)
          | (go_at_call 37; (with_reducible refine (P2.out _ H5.out).mono ?_); rintro e w1 ⟨G2, c2, rfl, hs, hi⟩; have H6 := Aside0.mk hs; clear hs hi H5))
        go_ret
        exact ⟨rfl, H6.out.2.2.2⟩
    · as_aux_lemma =>
        have P2 := Aside0.mk (an_pass w b p b 0 mx [] [] [] (by omega) (by omega) (by omega) rfl rfl)
        go_enter Try.func7, Try.ntmps7
        go_wp2_with (first
          | (go_at_call 32; (with_reducible refine CNew.out.mono ?_); rintro e w1 ⟨rfl, hs⟩; have H0 := Aside0.mk hs; clear hs)
          | (go_at_call 33; (with_reducible refine (C1.out _ H0.out).mono ?_); rintro e w1 ⟨rfl, hs⟩; have H1 := Aside0.mk hs; clear hs H0)
          | (go_at_call 33; (with_reducible refine (C2.out _ H1.out).mono ?_); rintro e w1 ⟨rfl, hs⟩; have H2 := Aside0.mk hs; clear hs H1)
          | (go_at_call 34; (first | (with_reducible refine (CL.out _ _ _ H2.out).mono ?_) | (with_reducible refine (CL.out _ _ _ H3.out).mono ?_) | (with_reducible refine (CL.out _ _ _ H4.out).mono ?_) | (with_reducible refine (CL.out _ _ _ H6.out).mono ?_)); rintro e w1 ⟨rfl, rfl⟩)
          | (go_at_call 35; (with_reducible refine (C3.out _ H2.out).mono ?_); rintro e w1 ⟨rfl, rfl⟩)
          | (go_at_call 36; (with_reducible refine (C4.out _ H2.out).mono ?_); rintro e w1 ⟨rfl, hs⟩; have H3 := Aside0.mk hs; clear hs H2)
          | (go_at_call 36; (with_reducible refine (C5.out _ H3.out).mono ?_); rintro e w1 ⟨rfl, hs⟩; have H4 := Aside0.mk hs; clear hs H3)
          | (go_at_call 37; (with_reducible refine (P2.out _ H4.out).mono ?_); rintro e w1 ⟨G2, c2, rfl, hs, hi⟩; have H6 := Aside0.mk hs; clear hs hi H4))
        go_ret
        exact ⟨rfl, H6.out.2.2.2⟩
  | false =>
    by_cases hpos : 0 < s
    · as_aux_lemma =>
        have P1 := Aside0.mk (an_pass w b p b 0 (s - 1) [(5, s)] [] [(5, s)] (by omega) (by omega) (by omega) (due_none (by omega)) (ahead_one (by omega)))
        have P2 := Aside0.mk (an_pass w b p b (s - 1) mx [(5, s)] [5] [] (by omega) (by omega) (by omega) (due_one (by omega)) (ahead_none (by omega)))
        go_enter Try.func7, Try.ntmps7
        go_wp2_with (first
          | (go_at_call 32; (with_reducible refine CNew.out.mono ?_); rintro e w1 ⟨rfl, hs⟩; have H0 := Aside0.mk hs; clear hs)
          | (go_at_call 33; (with_reducible refine (C1.out _ H0.out).mono ?_); rintro e w1 ⟨rfl, hs⟩; have H1 := Aside0.mk hs; clear hs H0)
          | (go_at_call 33; (with_reducible refine (C2.out _ H1.out).mono ?_); rintro e w1 ⟨rfl, hs⟩; have H2 := Aside0.mk hs; clear hs H1)
          | (go_at_call 34; (first | (with_reducible refine (CL.out _ _ _ H2.out).mono ?_) | (with_reducible refine (CL.out _ _ _ H3.out).mono ?_) | (with_reducible refine (CL.out _ _ _ H4.out).mono ?_) | (with_reducible refine (CL.out _ _ _ H6.out).mono ?_)); rintro e w1 ⟨rfl, rfl⟩)
          | (go_at_call 35; (with_reducible refine (C3.out _ H2.out).mono ?_); rintro e w1 ⟨rfl, rfl⟩)
          | (go_at_call 37; (with_reducible refine (P1.out _ H2.out).mono ?_); rintro e w1 ⟨G, c, rfl, hs, hi⟩; have H5 := Aside0.mk hs; clear hs hi H2)
          | (go_at_call 37; (with_reducible refine (P2.out _ H5.out).mono ?_); rintro e w1 ⟨G2, c2, rfl, hs, hi⟩; obtain ⟨g2, rfl, k0⟩ := one_key hi; have H6 := Aside0.mk hs; clear hs hi H5))
        go_ret
        exact ⟨rfl, H6.out.2.2.2⟩
    · as_aux_lemma =>
        have P2 := Aside0.mk (an_pass w b p b 0 mx [(5, s)] [5] [] (by omega) (by omega) (by omega) (due_one (by omega)) (ahead_none (by omega)))
        go_enter Try.func7, Try.ntmps7
        go_wp2_with (first
          | (go_at_call 32; (with_reducible refine CNew.out.mono ?_); rintro e w1 ⟨rfl, hs⟩; have H0 := Aside0.mk hs; clear hs)
          | (go_at_call 33; (with_reducible refine (C1.out _ H0.out).mono ?_); rintro e w1 ⟨rfl, hs⟩; have H1 := Aside0.mk hs; clear hs H0)
          | (go_at_call 33; (with_reducible refine (C2.out _ H1.out).mono ?_); rintro e w1 ⟨rfl, hs⟩; have H2 := Aside0.mk hs; clear hs H1)
          | (go_at_call 34; (first | (with_reducible refine (CL.out _ _ _ H2.out).mono ?_) | (with_reducible refine (CL.out _ _ _ H3.out).mono ?_) | (with_reducible refine (CL.out _ _ _ H4.out).mono ?_) | (with_reducible refine (CL.out _ _ _ H6.out).mono ?_)); rintro e w1 ⟨rfl, rfl⟩)
          | (go_at_call 35; (with_reducible refine (C3.out _ H2.out).mono ?_); rintro e w1 ⟨rfl, rfl⟩)
          | (go_at_call 37; (with_reducible refine (P2.out _ H2.out).mono ?_); rintro e w1 ⟨G2, c2, rfl, hs, hi⟩; obtain ⟨g2, rfl, k0⟩ := one_key hi; have H6 := Aside0.mk hs; clear hs hi H2))
        go_ret
        exact ⟨rfl, H6.out.2.2.2⟩
end Go.Proofs.Ytakmcbakogjeeaa.Wh
