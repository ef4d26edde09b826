/- PathThrice: the law's walk; the one condition: not too many acts. -/
import Derived.Test.YtakmcbakogjeeaaPt10
set_option linter.unusedVariables false
set_option linter.unusedSimpArgs false
namespace Go.Proofs.Ytakmcbakogjeeaa.Pt
open Go Go.RowKit Go.Maps Go.Proofs.Ytakmcbakogjeeaa.Rm
open Go.Proofs.YtakmcbakogjeeaaW.PrintWords Go.Proofs.YtakmcbakogjeeaaW.PrintLast Go.Proofs.YtakmcbakogjeeaaW.PrintMore
/-- Under way: so many acts are done. -/
def ThRel (w0 : World) (p m : Nat) (L : Nat) (cv sv av vv iv : Value) (W : World) : Prop := ∃ (j : Nat) (K : List Ent) (came sent : Int) (asked valid : Bool), j ≤ L ∧ cv = .int .i64 came ∧ sv = .int .i64 sent ∧ av = .bool asked ∧ vv = .bool valid ∧ iv = .int .i64 j ∧ Th w0 W p m K came sent asked valid (65535 * j)
theorem th_start {w0 W : World} {p m g : Nat} (h : PtAt W w0.heap.size p m 1 0 [newE 0 g 0]) (hb : Below w0.heap.size w0 W) : Th w0 W p m [newE 0 g 0] 0 0 false false 0 :=
  ⟨h, hb, ⟨⟨newE 0 g 0, [], rfl, rfl, rfl, rfl, rfl, fun hh => absurd rfl hh⟩, fun y hy => by
    obtain rfl := List.mem_singleton.1 hy
    exact ⟨Int.le_refl _, by simp [newE], by simp [newE], fun o ho => by simp [newE] at ho⟩, .inr (by omega), Int.le_refl _, Int.le_refl _, Int.le_refl _, Int.le_refl _⟩⟩
theorem th_may0 {w0 W : World} {p m g : Nat} (h : Th w0 W p m [newE 0 g 0] 0 0 false false 0) : Calls Try.prog 47 #[.pointer (some ⟨p, 0, none⟩), .int .i64 0] W fun e w' => e = .returned (.int .i64 0) ∧ Th w0 w' p m [newE 0 g 0] 0 0 false false 0 := by
  refine (may_s h.pt (x := newE 0 g 0) (by simp) (wf_of (by simp [newE]) (by simp [newE]))).mono ?_
  rintro e w' ⟨rfl, j, rfl⟩
  exact ⟨by simp [mayV, newE], h.below (Ib.bl_drewN j)⟩
set_option maxRecDepth 100000 in
set_option maxHeartbeats 6400000 in
theorem thrice_walk (A1 : Option Addr) (acts : List ActP) (c1 : Nat) (w : World) (hr1 : Kd.C actK w A1 acts.length acts) (hl1 : acts.length ≤ 1048576) :
    Calls Try.prog 11 #[.slice A1 acts.length c1] w fun e w' => e = .returned (.bool true) ∧ Below w.heap.size w w' := by
  have HR1 := Aside0.mk hr1
  clear hr1
  have hwf0 : (Lit.int .i64 0).wf = true := by decide
  go_enter Try.func11, Try.ntmps11
  go_wp2_with (first
    | (go_at_call 46; (with_reducible refine (new_s _ 0 hwf0).mono ?_); rintro e w1 ⟨p, m, g, rfl, hp, hb⟩; have HS := Aside0.mk (th_start hp hb); clear hp hb)
    | (go_at_call 47; (with_reducible refine (th_may0 HS.out).mono ?_); rintro e w2 ⟨rfl, hs⟩; have HS2 := Aside0.mk hs; clear hs HS; have HS := HS2; clear HS2))
  go_loopw [4, 5, 6, 7, 8] (fun cv sv av vv iv W => ThRel w p m acts.length cv sv av vv iv W) (fun _ _ _ _ iv _ => acts.length - (intOf iv).toNat)
  case atStart => exact ⟨0, _, 0, 0, false, false, Nat.zero_le _, rfl, rfl, rfl, rfl, rfl, HS.out⟩
  case round =>
    clear HS
    obtain ⟨j, K, came, sent, asked, valid, hj, rfl, rfl, rfl, rfl, rfl, hs⟩ := hrel
    have HS := Aside0.mk hs
    clear hs
    by_cases hlt : j < acts.length
    · obtain ⟨x, hx⟩ : ∃ x, acts[j]? = some x := ⟨_, List.getElem?_eq_getElem hlt⟩
      obtain ⟨ad, d0, d1, d2, d3, d4, d5, d6, d7, hA1, hd, g0, g1, g2, g3, g4, g5, g6, g7, g8, g9, g10⟩ := came_act HR1.out hx
      subst hA1
      have e0 := pw_cell_below HS.out.bel g0
      have e1 := pw_cell_below HS.out.bel g1
      have e2 := pw_cell_below HS.out.bel g2
      have e3 := pw_cell_below HS.out.bel g3
      have e4 := pw_cell_below HS.out.bel g4
      have e5 := pw_cell_below HS.out.bel g5
      have e6 := pw_cell_below HS.out.bel g6
      have e7 := pw_cell_below HS.out.bel g7
      have e8 := pw_cell_below HS.out.bel g8
      have e9 := pw_cell_below HS.out.bel g9
      have e10 := pw_cell_below HS.out.bel g10
      clear g0 g1 g2 g3 g4 g5 g6 g7 g8 g9 g10 hx hd
      obtain ⟨kd, a0, k0, dl⟩ := x
      simp only at e0 e1 e2
      rw [add_field _ _ _ (by decide)] at e1 e2 e3 e4 e5 e6 e7 e8 e9 e10
      obtain ⟨q, hq⟩ : ∃ q, bits .and .i64 a0 3 = q := ⟨_, rfl⟩
      obtain ⟨k, hk⟩ : ∃ k, bits .and .i64 k0 65535 = k := ⟨_, rfl⟩
      have hq1 := mask_le a0 3 (by omega)
      have hk1 := mask_le k0 65535 (by omega)
      rw [show ((3 : Nat) : Int) = 3 from rfl, hq] at hq1
      rw [show ((65535 : Nat) : Int) = 65535 from rfl, hk] at hk1
      go_upto_region 12 with fail
      have HX : ThX w (wr.alloc (.cells #[.int .i64 kd, .int .i64 a0, .int .i64 k, .int .u8 d0, .int .u8 d1, .int .u8 d2, .int .u8 d3, .int .u8 d4, .int .u8 d5, .int .u8 d6, .int .u8 d7] 98)) p m K came sent asked valid (65535 * j) wr.heap.size kd a0 k d0 d1 d2 d3 d4 d5 d6 d7 := ⟨HS.out.below (below_alloc (Below.refl _ wr) _), heap_alloc_new wr _⟩
      generalize wr.alloc (.cells #[.int .i64 kd, .int .i64 a0, .int .i64 k, .int .u8 d0, .int .u8 d1, .int .u8 d2, .int .u8 d3, .int .u8 d4, .int .u8 d5, .int .u8 d6, .int .u8 d7] 98) = wa at *
      generalize wr.heap.size = ab at *
      have HX := Aside0.mk HX
      obtain ⟨b0, b1, b2⟩ := HX.out.c
      have hN : 65535 * (j : Int) ≤ 1000000000000 := by omega
      have hc0 := HX.out.th.law.c0
      have hc1 := HX.out.th.law.c1
      have hs0 := HX.out.th.law.s0
      have hs1 := HX.out.th.law.s1
      have hthr0 := HX.out.th.law.thrice
      have z1 : IntKind.i64.wrap (came + k) = came + k := by rw [IntKind.wrap_i64]; omega
      have z2 : IntKind.i64.wrap (sent + k) = sent + k := by rw [IntKind.wrap_i64]; omega
      have z3 : IntKind.i64.wrap (3 * came) = 3 * came := by rw [IntKind.wrap_i64]; omega
      have z4 : IntKind.i64.wrap (3 * (came + k)) = 3 * (came + k) := by rw [IntKind.wrap_i64]; omega
      have z5 : IntKind.u8.wrap q = q := by have : IntKind.u8.wrap q = q % 256 := rfl; omega
      have hjj : 65535 * (j : Int) + 65535 ≤ 65535 * ((j + 1 : Nat) : Int) := by omega
      have HJ := Aside0.mk hjj
      clear HS e0 e1 e2 e3 e4 e5 e6 e7 e8 e9 e10 hk hjj
      by_cases hk0 : kd = 0
      · subst hk0
        by_cases hq0 : q = 0
        · subst hq0
          cases valid with
          | false => as_aux_lemma =>
            simp only [Bool.false_eq_true, false_or] at hthr0
            go_wp2_with (first
              | (go_at_call 48; (with_reducible refine (th_came HX.out.th (a := 0) (by omega) (by omega) hk1.1 hk1.2 hN).mono ?_); rintro e w3 ⟨x, ec, K', rfl, hec, hx0, ht, hl⟩; obtain rfl := hx0 rfl; rw [if_pos rfl] at ht; have HX2 := Aside0.mk (HX.out.next ht hl); obtain ⟨n0, n1, n2⟩ := HX2.out.c; have hthr := ht.law.thrice; simp only [Bool.false_eq_true, false_or] at hthr; clear ht hl; rcases hec with rfl | rfl)
              | (go_at_call 52; (with_reducible refine (th_told HX2.out.th).mono ?_); rintro e w4 ⟨l, rfl, ht, hl⟩; have HX3 := Aside0.mk (HX2.out.next ht hl); clear ht hl))
            all_goals
              go_roundw
              case rel => exact ⟨j + 1, _, _, _, _, _, by omega, rfl, rfl, rfl, rfl, by go_num, HX3.out.th.mono (by have := HJ.out; omega)⟩
              case measure => simp [intOf]; omega

          | true => as_aux_lemma =>
            go_wp2_with (first
              | (go_at_call 48; (with_reducible refine (th_came HX.out.th (a := 0) (by omega) (by omega) hk1.1 hk1.2 hN).mono ?_); rintro e w3 ⟨x, ec, K', rfl, hec, hx0, ht, hl⟩; obtain rfl := hx0 rfl; rw [if_pos rfl] at ht; have HX2 := Aside0.mk (HX.out.next ht hl); obtain ⟨n0, n1, n2⟩ := HX2.out.c; clear ht hl; rcases hec with rfl | rfl)
              | (go_at_call 52; (with_reducible refine (th_told HX2.out.th).mono ?_); rintro e w4 ⟨l, rfl, ht, hl⟩; have HX3 := Aside0.mk (HX2.out.next ht hl); clear ht hl))
            all_goals
              go_roundw
              case rel => exact ⟨j + 1, _, _, _, _, _, by omega, rfl, rfl, rfl, rfl, by go_num, HX3.out.th.mono (by have := HJ.out; omega)⟩
              case measure => simp [intOf]; omega

        · skip
          cases valid with
          | false => as_aux_lemma =>
            simp only [Bool.false_eq_true, false_or] at hthr0
            go_wp2_with (first
              | (go_at_call 48; (with_reducible refine (th_came HX.out.th hq1.1 hq1.2 hk1.1 hk1.2 hN).mono ?_); rintro e w3 ⟨x, ec, K', rfl, hec, hx0, ht, hl⟩; rw [if_neg hq0] at ht; have HX2 := Aside0.mk (HX.out.next ht hl); obtain ⟨n0, n1, n2⟩ := HX2.out.c; have hthr := ht.law.thrice; simp only [Bool.false_eq_true, false_or] at hthr; clear ht hl hx0; rcases hec with rfl | rfl <;> cases x)
              | (go_at_call 52; (with_reducible refine (th_told HX2.out.th).mono ?_); rintro e w4 ⟨l, rfl, ht, hl⟩; have HX3 := Aside0.mk (HX2.out.next ht hl); clear ht hl))
            all_goals
              go_roundw
              case rel => exact ⟨j + 1, _, _, _, _, _, by omega, rfl, rfl, rfl, rfl, by go_num, HX3.out.th.mono (by have := HJ.out; omega)⟩
              case measure => simp [intOf]; omega

          | true => as_aux_lemma =>
            go_wp2_with (first
              | (go_at_call 48; (with_reducible refine (th_came HX.out.th hq1.1 hq1.2 hk1.1 hk1.2 hN).mono ?_); rintro e w3 ⟨x, ec, K', rfl, hec, hx0, ht, hl⟩; rw [if_neg hq0] at ht; have HX2 := Aside0.mk (HX.out.next ht hl); obtain ⟨n0, n1, n2⟩ := HX2.out.c; clear ht hl hx0; rcases hec with rfl | rfl <;> cases x)
              | (go_at_call 52; (with_reducible refine (th_told HX2.out.th).mono ?_); rintro e w4 ⟨l, rfl, ht, hl⟩; have HX3 := Aside0.mk (HX2.out.next ht hl); clear ht hl))
            all_goals
              go_roundw
              case rel => exact ⟨j + 1, _, _, _, _, _, by omega, rfl, rfl, rfl, rfl, by go_num, HX3.out.th.mono (by have := HJ.out; omega)⟩
              case measure => simp [intOf]; omega

      by_cases hk1 : kd = 1
      · subst hk1
        by_cases hq0 : q = 0
        · subst hq0
          cases valid with
          | false => as_aux_lemma =>
            simp only [Bool.false_eq_true, false_or] at hthr0
            go_wp2_with (first
              | (go_at_call 49; (with_reducible refine (th_sent HX.out.th (a := 0) (by omega) (by omega) hk1.1 hk1.2 hN).mono ?_); rintro e w3 ⟨ec, K', rfl, hec, ht, hl⟩; (by_cases hz : ec = 0 <;> first | (subst hz; rw [if_pos ⟨rfl, rfl⟩] at ht; have HX2 := Aside0.mk (HX.out.next ht hl); obtain ⟨n0, n1, n2⟩ := HX2.out.c; have hthr := ht.law.thrice; simp only [Bool.false_eq_true, false_or] at hthr; clear ht hl hec) | (rw [if_neg (fun hh => hz hh.2)] at ht; have HX2 := Aside0.mk (HX.out.next ht hl); obtain ⟨n0, n1, n2⟩ := HX2.out.c; have hthr := ht.law.thrice; simp only [Bool.false_eq_true, false_or] at hthr; clear ht hl hec)))
              | (go_at_call 52; (with_reducible refine (th_told HX2.out.th).mono ?_); rintro e w4 ⟨l, rfl, ht, hl⟩; have HX3 := Aside0.mk (HX2.out.next ht hl); clear ht hl))
            all_goals
              go_roundw
              case rel => exact ⟨j + 1, _, _, _, _, _, by omega, rfl, rfl, rfl, rfl, by go_num, HX3.out.th.mono (by have := HJ.out; omega)⟩
              case measure => simp [intOf]; omega

          | true => as_aux_lemma =>
            go_wp2_with (first
              | (go_at_call 49; (with_reducible refine (th_sent HX.out.th (a := 0) (by omega) (by omega) hk1.1 hk1.2 hN).mono ?_); rintro e w3 ⟨ec, K', rfl, hec, ht, hl⟩; obtain rfl := hec rfl rfl; rw [if_pos ⟨rfl, rfl⟩] at ht; have HX2 := Aside0.mk (HX.out.next ht hl); obtain ⟨n0, n1, n2⟩ := HX2.out.c; clear ht hl hec)
              | (go_at_call 52; (with_reducible refine (th_told HX2.out.th).mono ?_); rintro e w4 ⟨l, rfl, ht, hl⟩; have HX3 := Aside0.mk (HX2.out.next ht hl); clear ht hl))
            all_goals
              go_roundw
              case rel => exact ⟨j + 1, _, _, _, _, _, by omega, rfl, rfl, rfl, rfl, by go_num, HX3.out.th.mono (by have := HJ.out; omega)⟩
              case measure => simp [intOf]; omega

        · skip
          cases valid with
          | false => as_aux_lemma =>
            simp only [Bool.false_eq_true, false_or] at hthr0
            go_wp2_with (first
              | (go_at_call 49; (with_reducible refine (th_sent HX.out.th hq1.1 hq1.2 hk1.1 hk1.2 hN).mono ?_); rintro e w3 ⟨ec, K', rfl, hec, ht, hl⟩; rw [if_neg (fun hh => hq0 hh.1)] at ht; have HX2 := Aside0.mk (HX.out.next ht hl); obtain ⟨n0, n1, n2⟩ := HX2.out.c; have hthr := ht.law.thrice; simp only [Bool.false_eq_true, false_or] at hthr; clear ht hl hec)
              | (go_at_call 52; (with_reducible refine (th_told HX2.out.th).mono ?_); rintro e w4 ⟨l, rfl, ht, hl⟩; have HX3 := Aside0.mk (HX2.out.next ht hl); clear ht hl))
            all_goals
              go_roundw
              case rel => exact ⟨j + 1, _, _, _, _, _, by omega, rfl, rfl, rfl, rfl, by go_num, HX3.out.th.mono (by have := HJ.out; omega)⟩
              case measure => simp [intOf]; omega

          | true => as_aux_lemma =>
            go_wp2_with (first
              | (go_at_call 49; (with_reducible refine (th_sent HX.out.th hq1.1 hq1.2 hk1.1 hk1.2 hN).mono ?_); rintro e w3 ⟨ec, K', rfl, hec, ht, hl⟩; rw [if_neg (fun hh => hq0 hh.1)] at ht; have HX2 := Aside0.mk (HX.out.next ht hl); obtain ⟨n0, n1, n2⟩ := HX2.out.c; clear ht hl hec)
              | (go_at_call 52; (with_reducible refine (th_told HX2.out.th).mono ?_); rintro e w4 ⟨l, rfl, ht, hl⟩; have HX3 := Aside0.mk (HX2.out.next ht hl); clear ht hl))
            all_goals
              go_roundw
              case rel => exact ⟨j + 1, _, _, _, _, _, by omega, rfl, rfl, rfl, rfl, by go_num, HX3.out.th.mono (by have := HJ.out; omega)⟩
              case measure => simp [intOf]; omega

      by_cases hk2 : kd = 2
      · subst hk2
        by_cases hq0 : q = 0
        · subst hq0
          cases valid with
          | false => as_aux_lemma =>
            simp only [Bool.false_eq_true, false_or] at hthr0
            go_wp2_with (first
              | (go_at_call 50; (with_reducible refine (th_ask HX.out.th (a := 0) (by omega) (by omega)).mono ?_); rintro e w3 ⟨ec, K', rfl, ht, hl⟩; (by_cases hz : ec = 0 <;> first | (subst hz; rw [if_pos ⟨rfl, rfl⟩] at ht; have HX2 := Aside0.mk (HX.out.next ht hl); obtain ⟨n0, n1, n2⟩ := HX2.out.c; have hthr := ht.law.thrice; simp only [Bool.false_eq_true, false_or] at hthr; clear ht hl) | (rw [if_neg (fun hh => hz hh.1)] at ht; have HX2 := Aside0.mk (HX.out.next ht hl); obtain ⟨n0, n1, n2⟩ := HX2.out.c; have hthr := ht.law.thrice; simp only [Bool.false_eq_true, false_or] at hthr; clear ht hl)))
              | (go_at_call 52; (with_reducible refine (th_told HX2.out.th).mono ?_); rintro e w4 ⟨l, rfl, ht, hl⟩; have HX3 := Aside0.mk (HX2.out.next ht hl); clear ht hl))
            all_goals
              go_roundw
              case rel => exact ⟨j + 1, _, _, _, _, _, by omega, rfl, rfl, rfl, rfl, by go_num, HX3.out.th.mono (by have := HJ.out; omega)⟩
              case measure => simp [intOf]; omega

          | true => as_aux_lemma =>
            go_wp2_with (first
              | (go_at_call 50; (with_reducible refine (th_ask HX.out.th (a := 0) (by omega) (by omega)).mono ?_); rintro e w3 ⟨ec, K', rfl, ht, hl⟩; (by_cases hz : ec = 0 <;> first | (subst hz; rw [if_pos ⟨rfl, rfl⟩] at ht; have HX2 := Aside0.mk (HX.out.next ht hl); obtain ⟨n0, n1, n2⟩ := HX2.out.c; clear ht hl) | (rw [if_neg (fun hh => hz hh.1)] at ht; have HX2 := Aside0.mk (HX.out.next ht hl); obtain ⟨n0, n1, n2⟩ := HX2.out.c; clear ht hl)))
              | (go_at_call 52; (with_reducible refine (th_told HX2.out.th).mono ?_); rintro e w4 ⟨l, rfl, ht, hl⟩; have HX3 := Aside0.mk (HX2.out.next ht hl); clear ht hl))
            all_goals
              go_roundw
              case rel => exact ⟨j + 1, _, _, _, _, _, by omega, rfl, rfl, rfl, rfl, by go_num, HX3.out.th.mono (by have := HJ.out; omega)⟩
              case measure => simp [intOf]; omega

        · skip
          cases valid with
          | false => as_aux_lemma =>
            simp only [Bool.false_eq_true, false_or] at hthr0
            go_wp2_with (first
              | (go_at_call 50; (with_reducible refine (th_ask HX.out.th hq1.1 hq1.2).mono ?_); rintro e w3 ⟨ec, K', rfl, ht, hl⟩; rw [if_neg (fun hh => hq0 hh.2)] at ht; have HX2 := Aside0.mk (HX.out.next ht hl); obtain ⟨n0, n1, n2⟩ := HX2.out.c; have hthr := ht.law.thrice; simp only [Bool.false_eq_true, false_or] at hthr; clear ht hl; (by_cases hz : ec = 0 <;> first | subst hz | skip))
              | (go_at_call 52; (with_reducible refine (th_told HX2.out.th).mono ?_); rintro e w4 ⟨l, rfl, ht, hl⟩; have HX3 := Aside0.mk (HX2.out.next ht hl); clear ht hl))
            all_goals
              go_roundw
              case rel => exact ⟨j + 1, _, _, _, _, _, by omega, rfl, rfl, rfl, rfl, by go_num, HX3.out.th.mono (by have := HJ.out; omega)⟩
              case measure => simp [intOf]; omega

          | true => as_aux_lemma =>
            go_wp2_with (first
              | (go_at_call 50; (with_reducible refine (th_ask HX.out.th hq1.1 hq1.2).mono ?_); rintro e w3 ⟨ec, K', rfl, ht, hl⟩; rw [if_neg (fun hh => hq0 hh.2)] at ht; have HX2 := Aside0.mk (HX.out.next ht hl); obtain ⟨n0, n1, n2⟩ := HX2.out.c; clear ht hl; (by_cases hz : ec = 0 <;> first | subst hz | skip))
              | (go_at_call 52; (with_reducible refine (th_told HX2.out.th).mono ?_); rintro e w4 ⟨l, rfl, ht, hl⟩; have HX3 := Aside0.mk (HX2.out.next ht hl); clear ht hl))
            all_goals
              go_roundw
              case rel => exact ⟨j + 1, _, _, _, _, _, by omega, rfl, rfl, rfl, rfl, by go_num, HX3.out.th.mono (by have := HJ.out; omega)⟩
              case measure => simp [intOf]; omega

      by_cases hk3 : kd = 3
      · subst hk3
        by_cases hq0 : q = 0
        · subst hq0
          cases valid with
          | false => as_aux_lemma =>
            simp only [Bool.false_eq_true, false_or] at hthr0
            go_wp2_with (first
              | (go_at_call 51; (with_reducible refine (th_answer HX.out.th (a := 0) (by omega) (by omega)).mono ?_); rintro e w3 (⟨rfl, ht, hl⟩ | ⟨K', rfl, has, ht, hl⟩) <;> first | (obtain rfl := has rfl; rw [if_pos rfl] at ht; have HX2 := Aside0.mk (HX.out.next ht hl); obtain ⟨n0, n1, n2⟩ := HX2.out.c; clear ht hl) | (have HX2 := Aside0.mk (HX.out.next ht hl); obtain ⟨n0, n1, n2⟩ := HX2.out.c; have hthr := ht.law.thrice; simp only [Bool.false_eq_true, false_or] at hthr; clear ht hl))
              | (go_at_call 52; (with_reducible refine (th_told HX2.out.th).mono ?_); rintro e w4 ⟨l, rfl, ht, hl⟩; have HX3 := Aside0.mk (HX2.out.next ht hl); clear ht hl))
            all_goals
              go_roundw
              case rel => exact ⟨j + 1, _, _, _, _, _, by omega, rfl, rfl, rfl, rfl, by go_num, HX3.out.th.mono (by have := HJ.out; omega)⟩
              case measure => simp [intOf]; omega

          | true => as_aux_lemma =>
            go_wp2_with (first
              | (go_at_call 51; (with_reducible refine (th_answer HX.out.th (a := 0) (by omega) (by omega)).mono ?_); rintro e w3 (⟨rfl, ht, hl⟩ | ⟨K', rfl, has, ht, hl⟩) <;> first | (obtain rfl := has rfl; rw [if_pos rfl] at ht; have HX2 := Aside0.mk (HX.out.next ht hl); obtain ⟨n0, n1, n2⟩ := HX2.out.c; clear ht hl) | (have HX2 := Aside0.mk (HX.out.next ht hl); obtain ⟨n0, n1, n2⟩ := HX2.out.c; clear ht hl))
              | (go_at_call 52; (with_reducible refine (th_told HX2.out.th).mono ?_); rintro e w4 ⟨l, rfl, ht, hl⟩; have HX3 := Aside0.mk (HX2.out.next ht hl); clear ht hl))
            all_goals
              go_roundw
              case rel => exact ⟨j + 1, _, _, _, _, _, by omega, rfl, rfl, rfl, rfl, by go_num, HX3.out.th.mono (by have := HJ.out; omega)⟩
              case measure => simp [intOf]; omega

        · have hqb : (q == 0) = false := by simp [hq0]
          cases valid with
          | false => as_aux_lemma =>
            simp only [Bool.false_eq_true, false_or] at hthr0
            go_wp2_with (first
              | (go_at_call 51; (with_reducible refine (th_answer HX.out.th hq1.1 hq1.2).mono ?_); rintro e w3 (⟨rfl, ht, hl⟩ | ⟨K', rfl, has, ht, hl⟩) <;> first | (rw [if_neg hq0] at ht; have HX2 := Aside0.mk (HX.out.next ht hl); obtain ⟨n0, n1, n2⟩ := HX2.out.c; have hthr := ht.law.thrice; simp only [Bool.false_eq_true, false_or] at hthr; clear ht hl has) | (have HX2 := Aside0.mk (HX.out.next ht hl); obtain ⟨n0, n1, n2⟩ := HX2.out.c; have hthr := ht.law.thrice; simp only [Bool.false_eq_true, false_or] at hthr; clear ht hl))
              | (go_at_call 52; (with_reducible refine (th_told HX2.out.th).mono ?_); rintro e w4 ⟨l, rfl, ht, hl⟩; have HX3 := Aside0.mk (HX2.out.next ht hl); clear ht hl))
            all_goals
              go_roundw
              case rel => exact ⟨j + 1, _, _, _, _, _, by omega, rfl, rfl, rfl, rfl, by go_num, HX3.out.th.mono (by have := HJ.out; omega)⟩
              case measure => simp [intOf]; omega

          | true => as_aux_lemma =>
            go_wp2_with (first
              | (go_at_call 51; (with_reducible refine (th_answer HX.out.th hq1.1 hq1.2).mono ?_); rintro e w3 (⟨rfl, ht, hl⟩ | ⟨K', rfl, has, ht, hl⟩) <;> first | (rw [if_neg hq0] at ht; have HX2 := Aside0.mk (HX.out.next ht hl); obtain ⟨n0, n1, n2⟩ := HX2.out.c; clear ht hl has) | (have HX2 := Aside0.mk (HX.out.next ht hl); obtain ⟨n0, n1, n2⟩ := HX2.out.c; clear ht hl))
              | (go_at_call 52; (with_reducible refine (th_told HX2.out.th).mono ?_); rintro e w4 ⟨l, rfl, ht, hl⟩; have HX3 := Aside0.mk (HX2.out.next ht hl); clear ht hl))
            all_goals
              go_roundw
              case rel => exact ⟨j + 1, _, _, _, _, _, by omega, rfl, rfl, rfl, rfl, by go_num, HX3.out.th.mono (by have := HJ.out; omega)⟩
              case measure => simp [intOf]; omega

      cases valid with
      | false => as_aux_lemma =>
        simp only [Bool.false_eq_true, false_or] at hthr0
        go_wp2_with (first
          | (go_at_call 52; (with_reducible refine (th_told HX.out.th).mono ?_); rintro e w4 ⟨l, rfl, ht, hl⟩; have HX3 := Aside0.mk (HX.out.next ht hl); clear ht hl))
        all_goals
          go_roundw
          case rel => exact ⟨j + 1, _, _, _, _, _, by omega, rfl, rfl, rfl, rfl, by go_num, HX3.out.th.mono (by have := HJ.out; omega)⟩
          case measure => simp [intOf]; omega

      | true => as_aux_lemma =>
        go_wp2_with (first
          | (go_at_call 52; (with_reducible refine (th_told HX.out.th).mono ?_); rintro e w4 ⟨l, rfl, ht, hl⟩; have HX3 := Aside0.mk (HX.out.next ht hl); clear ht hl))
        all_goals
          go_roundw
          case rel => exact ⟨j + 1, _, _, _, _, _, by omega, rfl, rfl, rfl, rfl, by go_num, HX3.out.th.mono (by have := HJ.out; omega)⟩
          case measure => simp [intOf]; omega

    · obtain rfl : j = acts.length := by omega
      go_wp2
      go_ret
      exact ⟨rfl, HS.out.bel⟩
end Go.Proofs.Ytakmcbakogjeeaa.Pt
