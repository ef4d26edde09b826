/- Layer 25: WheelPlays; no condition but the row's. -/
import Derived.Test.YtakmcbakogjeeaaWr5
import Derived.Test.YtakmcbakogjeeaaWMore
import Derived.Lib.QuietBelow
import Derived.BigQuiet
import Derived.Outline
set_option linter.unusedVariables false
set_option linter.unusedSimpArgs false
namespace Go.Proofs.Ytakmcbakogjeeaa.Wr
open Go Go.RowKit Go.Maps Go.Proofs.Ytakmcbakogjeeaa.Rm Go.Proofs.Ytakmcbakogjeeaa.Rw Go.Proofs.Ytakmcbakogjeeaa.Wh
open Go.Proofs.YtakmcbakogjeeaaW.PrintWords Go.Proofs.YtakmcbakogjeeaaW.PrintLast Go.Proofs.YtakmcbakogjeeaaW.PrintMore
variable {w W W' W0 W2 : World} {b p m g : Nat} {n1 n2 now nw : Int} {L L1 L2 l l2 K : List Tm} {v v2 ov : Value} {ks : List Int} {R R1 : List Row} {F' : Nat → Prop}
theorem new_e (w : World) (now : Int) (h0 : 0 ≤ now) (h1 : now ≤ 1125899906842624) :
    Calls Try.prog 32 #[.int .i64 now] w fun e w' => ∃ b p m, e = .returned (.tuple #[.pointer (some ⟨p, 0, none⟩), .int .i64 0]) ∧ w.heap.size ≤ b ∧ b ≤ w'.heap.size ∧ (∃ R, WhS w' b p m now [] R) ∧ Below w.heap.size w w' := by
  refine (new_l w now h0 h1).mono ?_
  rintro e w' ⟨rfl, g1, g2⟩
  exact ⟨_, _, _, rfl, Nat.le_refl _, g2.size, ⟨_, g1⟩, g2⟩
theorem new_er {w W : World} (hb : w.heap.size ≤ b) (hbW : b ≤ W.heap.size) (hw : ∃ R, WhS W b p m now [] R) (hbe : Below w.heap.size w W) (h : 0 ≤ now ∧ now ≤ 1125899906842624) :
    Calls Try.prog 39 #[.int .i64 now] W fun e w' => ∃ g, e = .returned (.tuple #[.pointer (some ⟨g, 0, none⟩), .int .i64 0]) ∧ Pl w b p m g now [] now [] w' := by
  refine (new_r W now h).mono ?_
  rintro e w' ⟨rfl, g1, g2⟩
  obtain ⟨R, h5⟩ := hw
  exact ⟨_, rfl, hb, Nat.le_trans hbW g2.size, ⟨R, h5.below g2⟩, hbe.trans (g2.mono hbe.size), ⟨_, ⟨hbe.size, g1.blk, wr_lower g1.row hbe.size⟩⟩, Tms.nil, by simp⟩
theorem pl_lenb (h : Pl w b p m g n1 L1 n2 L2 W) : Calls Try.prog 34 #[.pointer (some ⟨p, 0, none⟩)] W fun e w' => e = .returned (.int .i64 L1.length) ∧ Below W.heap.size W w' := by
  refine (pl_len h).mono ?_
  rintro e w' ⟨rfl, rfl⟩
  exact ⟨rfl, Below.refl _ _⟩
theorem plx_lenb {ab N : Nat} {cs : Array Value} (h : PlX w b p m g n1 L1 n2 L2 ab cs W) (hN : L1.length = N) : Calls Try.prog 34 #[.pointer (some ⟨p, 0, none⟩)] W fun e w' => e = .returned (.int .i64 N) ∧ Below W.heap.size W w' := by
  subst hN
  exact pl_lenb h.1
theorem passD_len : (passD now nw L).length ≤ L.length := by
  unfold passD
  split
  · rw [List.length_map]; exact List.length_filter_le _ _
  · exact Nat.zero_le _
def PlRel (w : World) (b p m g N : Nat) (iv : Value) (W : World) : Prop := ∃ (k : Nat) (nw : Int) (L : List Tm), k ≤ N ∧ iv = .int .i64 k ∧ Pl w b p m g nw L nw L W
def PlCut (w : World) (b p m g ab : Nat) (cs : Array Value) (W : World) : Prop := ∃ (nw : Int) (L : List Tm), PlX w b p m g nw L nw L ab cs W
set_option maxRecDepth 100000 in
set_option maxHeartbeats 12800000 in
theorem play_good (x0 : Int) (h0 : 0 ≤ x0) (h1 : x0 ≤ 1125899906842624) (A1 : Option Addr) (acts : List ActW) (c1 : Nat) (w : World) (hl1 : acts.length ≤ 140737488351232) (hr : Kd.C actK w A1 acts.length acts) (hlo : ∀ x ∈ acts, (Lit.int .i64 x.2.1).wf = true) :
    Calls Try.prog 9 #[.int .i64 x0, .slice A1 acts.length c1] w fun e w' => e = .returned (.bool true) ∧ Below w.heap.size w w' := by
  have HR := Aside0.mk hr
  have HLO := Aside0.mk hlo
  clear hr hlo
  go_enter Try.func9, Try.ntmps9
  go_wp2_with (first
    | (go_at_call 32; (with_reducible refine (new_e w x0 h0 h1).mono ?_); rintro e w1 ⟨b, p, m, rfl, hx1, hx2, hx3, hx4⟩; have X1 := Aside0.mk (And.intro hx1 (And.intro hx2 (And.intro hx3 hx4))); clear hx1 hx2 hx3 hx4)
    | (go_at_call 39; (with_reducible refine (new_er X1.out.1 X1.out.2.1 X1.out.2.2.1 X1.out.2.2.2 ⟨h0, h1⟩).mono ?_); rintro e w2 ⟨g, rfl, hx⟩; have H1 := Aside0.mk hx; clear hx)
    | (go_at_call 40; (with_reducible refine (names_s _).mono ?_); rintro e w3 ⟨rfl, rfl⟩))
  clear X1
  go_loopw [9] (fun iv W => PlRel w b p m g acts.length iv W) (fun iv _ => acts.length - (intOf iv).toNat)
  case atStart => exact ⟨0, _, _, Nat.zero_le _, rfl, H1.out⟩
  case round =>
    clear H1
    obtain ⟨k, nw, L, hk, rfl, hs⟩ := hrel
    have HS := Aside0.mk hs
    clear hs
    by_cases hlt : k < acts.length
    · obtain ⟨x, hx⟩ : ∃ x, acts[k]? = some x := ⟨_, List.getElem?_eq_getElem hlt⟩
      obtain ⟨ad, hA1, g0, g1, g2⟩ := came_act HR.out hx
      subst hA1
      have HWF := Aside0.mk (HLO.out x (List.mem_of_getElem? hx))
      obtain ⟨kd, ky, at_⟩ := x
      simp only at g0 g1 g2 HWF
      rw [add_field _ _ _ (by decide)] at g1 g2
      have e0 := pw_cell_below HS.out.bel g0
      have e1 := pw_cell_below HS.out.bel g1
      have e2 := pw_cell_below HS.out.bel g2
      clear g0 g1 g2 hx
      go_upto_region 9 with fail
      have hn0 := heap_alloc_new wr (.cells #[.int .i64 kd, .int .i64 ky, .int .i64 at_] 68 (0, 0))
      have hs1 : PlX w b p m g nw L nw L wr.heap.size #[.int .i64 kd, .int .i64 ky, .int .i64 at_] (wr.alloc (.cells #[.int .i64 kd, .int .i64 ky, .int .i64 at_] 68)) := ⟨HS.out.below (below_alloc (Below.refl _ wr) _), hn0⟩
      obtain ⟨ab, hab⟩ : ∃ ab, wr.heap.size = ab := ⟨_, rfl⟩
      rw [hab] at hs1 ⊢
      obtain ⟨wa, hwa⟩ : ∃ wa, wr.alloc (.cells #[.int .i64 kd, .int .i64 ky, .int .i64 at_] 68) = wa := ⟨_, rfl⟩
      rw [hwa] at hs1 ⊢
      clear HS e0 e1 e2 hwa hab hn0
      have HS := Aside0.mk hs1
      clear hs1
      obtain ⟨a0, a1, a2⟩ := HS.out.cells
      go_upto_block 2 with fail
      go_cut [11, 12, 13, 14] from 61 to 180 (fun _ _ _ _ wc => PlCut w b p m g ab #[.int .i64 kd, .int .i64 ky, .int .i64 at_] wc)
      case first =>
        by_cases k0 : kd = 0
        · subst k0
          as_aux_lemma =>
            go_upto_region 11 with fail
            obtain ⟨cv, hcv⟩ : ∃ cv, setV L ky at_ = cv := ⟨_, rfl⟩
            have C1 := Aside0.mk (fun W (h : PlX w b p m g nw L nw L ab #[.int .i64 0, .int .i64 ky, .int .i64 at_] W) => pl_set h.1 (k := ky) (a := at_) HWF.out)
            have C2 := Aside0.mk (fun W (h : PlX w b p m g nw (setL L ky at_) nw L ab #[.int .i64 0, .int .i64 ky, .int .i64 at_] W) => pl_rset h.1)
            rw [hcv] at C1 C2
            clear hcv
            go_region_held3 (fun w' => w'.cell? ⟨ab, 1, none⟩ = some (.int .i64 ky) ∧ w'.cell? ⟨ab, 2, none⟩ = some (.int .i64 at_)) (first | exact ⟨a1, a2⟩ | (simp [go_sem, *]; done))
              (first
                | (go_at_call 33; with_reducible refine (C1.out _ (show PlX w b p m g nw L nw L ab #[.int .i64 0, .int .i64 ky, .int .i64 at_] _ from by first | exact HS.out | exact HS.out.below (Below.refl _ _).drew | exact HS.out.below (Ib.bl_drewN _))).mono ?_; rintro e w4 ⟨rfl, hs⟩; have hs := (show PlX w b p m g nw L nw L ab #[.int .i64 0, .int .i64 ky, .int .i64 at_] _ from by first | exact HS.out | exact HS.out.below (Below.refl _ _).drew | exact HS.out.below (Ib.bl_drewN _)).go hs; clear HS a0 a1 a2; have HS := Aside0.mk hs; clear hs; obtain ⟨a0, a1, a2⟩ := HS.out.cells)
                | (go_at_call 41; with_reducible refine (C2.out _ (show PlX w b p m g nw (setL L ky at_) nw L ab #[.int .i64 0, .int .i64 ky, .int .i64 at_] _ from by first | exact HS.out | exact HS.out.below (Below.refl _ _).drew | exact HS.out.below (Ib.bl_drewN _))).mono ?_; rintro e w5 ⟨rfl, hs⟩; have hs := (show PlX w b p m g nw (setL L ky at_) nw L ab #[.int .i64 0, .int .i64 ky, .int .i64 at_] _ from by first | exact HS.out | exact HS.out.below (Below.refl _ _).drew | exact HS.out.below (Ib.bl_drewN _)).go hs; clear HS a0 a1 a2; have HS := Aside0.mk hs; clear hs; obtain ⟨a0, a1, a2⟩ := HS.out.cells))
            clear C1 C2
            go_wp2_with fail
            go_meet
            case rel => exact ⟨_, _, HS.out⟩
        by_cases k1 : kd = 1
        · subst k1
          as_aux_lemma =>
            go_upto_region 14 with fail
            obtain ⟨cv, hcv⟩ : ∃ cv, (findT ky L).isSome = cv := ⟨_, rfl⟩
            have C1 := Aside0.mk (fun W (h : PlX w b p m g nw L nw L ab #[.int .i64 1, .int .i64 ky, .int .i64 at_] W) => pl_stop h.1 (k := ky) HWF.out)
            have C2 := Aside0.mk (fun W (h : PlX w b p m g nw (without ky L) nw L ab #[.int .i64 1, .int .i64 ky, .int .i64 at_] W) => pl_rstop h.1)
            rw [hcv] at C1 C2
            clear hcv
            go_region_held3 (fun w' => w'.cell? ⟨ab, 1, none⟩ = some (.int .i64 ky)) (first | exact a1 | (simp [go_sem, *]; done))
              (first
                | (go_at_call 36; with_reducible refine (C1.out _ (show PlX w b p m g nw L nw L ab #[.int .i64 1, .int .i64 ky, .int .i64 at_] _ from by first | exact HS.out | exact HS.out.below (Below.refl _ _).drew | exact HS.out.below (Ib.bl_drewN _))).mono ?_; rintro e w4 ⟨rfl, hs⟩; have hs := (show PlX w b p m g nw L nw L ab #[.int .i64 1, .int .i64 ky, .int .i64 at_] _ from by first | exact HS.out | exact HS.out.below (Below.refl _ _).drew | exact HS.out.below (Ib.bl_drewN _)).go hs; clear HS a0 a1 a2; have HS := Aside0.mk hs; clear hs; obtain ⟨a0, a1, a2⟩ := HS.out.cells)
                | (go_at_call 42; with_reducible refine (C2.out _ (show PlX w b p m g nw (without ky L) nw L ab #[.int .i64 1, .int .i64 ky, .int .i64 at_] _ from by first | exact HS.out | exact HS.out.below (Below.refl _ _).drew | exact HS.out.below (Ib.bl_drewN _))).mono ?_; rintro e w5 ⟨rfl, hs⟩; have hs := (show PlX w b p m g nw (without ky L) nw L ab #[.int .i64 1, .int .i64 ky, .int .i64 at_] _ from by first | exact HS.out | exact HS.out.below (Below.refl _ _).drew | exact HS.out.below (Ib.bl_drewN _)).go hs; clear HS a0 a1 a2; have HS := Aside0.mk hs; clear hs; obtain ⟨a0, a1, a2⟩ := HS.out.cells))
            clear C1 C2
            go_wp2_with fail
            go_meet
            case rel => exact ⟨_, _, HS.out⟩
        by_cases k2 : kd = 2
        · subst k2
          as_aux_lemma =>
            have hdl : (passD nw at_ L).length ≤ 1099511627776 := Nat.le_trans passD_len (Nat.le_trans HS.out.1.len (by omega))
            have C1 := Aside0.mk (pl_pass HS.out.1 at_)
            have C2 := Aside0.mk (fun W (h : PlX w b p m g (passN nw at_) (passL nw at_ L) nw L ab #[.int .i64 2, .int .i64 ky, .int .i64 at_] W) => pl_rpass h.1)
            obtain ⟨D, hD⟩ : ∃ D, passD nw at_ L = D := ⟨_, rfl⟩
            obtain ⟨V, hV⟩ : ∃ V, passV nw at_ = V := ⟨_, rfl⟩
            rw [hD, hV] at C1 C2
            rw [hD] at hdl
            clear hD hV
            go_wp2_with (first
              | (go_at_call 37; (with_reducible refine C1.out.mono ?_); rintro e w4 ⟨G1, d1, rfl, hs, hi⟩; have hs := HS.out.go hs; clear HS a0 a1 a2; have HS := Aside0.mk hs; have HI1 := Aside0.mk hi; clear hs hi; obtain ⟨a0, a1, a2⟩ := HS.out.cells)
              | (go_at_call 43; (with_reducible refine (C2.out _ HS.out).mono ?_); rintro e w5 ⟨G2, d2, rfl, hs, hi⟩; have HI2 := Aside0.mk (And.intro (hs.2.ints HI1.out) hi); have hs := HS.out.go hs; clear HS a0 a1 a2; have HS := Aside0.mk hs; clear hs hi; obtain ⟨a0, a1, a2⟩ := HS.out.cells)
              | (go_at_call 44; (with_reducible refine (same_s HI2.out.1 HI2.out.2 hdl).mono ?_); rintro e w6 ⟨rfl, jd, rfl⟩))
            go_meet
            case rel => exact ⟨_, _, HS.out.below (Ib.bl_drewN _)⟩
        · have d0 : (kd == 0) = false := by simp [k0]
          have d1 : (kd == 1) = false := by simp [k1]
          have d2 : (kd == 2) = false := by simp [k2]
          go_wp2_with fail
          go_meet
          case rel => exact ⟨_, _, HS.out⟩
      case rest =>
        clear HS a0 a1 a2
        obtain ⟨nw, L, hs⟩ := hcut
        have HS := Aside0.mk hs
        clear hs
        obtain ⟨fv, hfv⟩ : ∃ fv, (findT ky L).getD 0 = fv := ⟨_, rfl⟩
        obtain ⟨fb, hfb⟩ : ∃ fb, (findT ky L).isSome = fb := ⟨_, rfl⟩
        have CA := Aside0.mk (fun W (h : PlX w b p m g nw L nw L ab #[.int .i64 kd, .int .i64 ky, .int .i64 at_] W) => pl_at h.1 (k := ky) HWF.out)
        have CR := Aside0.mk (fun W (h : PlX w b p m g nw L nw L ab #[.int .i64 kd, .int .i64 ky, .int .i64 at_] W) => pl_rat h.1 ky)
        rw [hfv, hfb] at CA CR
        clear hfv hfb
        obtain ⟨a0, a1, a2⟩ := HS.out.cells
        cases L with
        | nil =>
          as_aux_lemma =>
            have CX : Aside0 (Calls Try.prog 38 #[.pointer (some ⟨p, 0, none⟩)] wc fun e w' => e = .returned (.tuple #[.int .i64 0, .bool false]) ∧ Pl w b p m g nw [] nw [] w' ∧ Ak wc w') := ⟨pl_next HS.out.1⟩
            go_upto_region 24 with (first
              | (go_at_call 38; (with_reducible refine CX.out.mono ?_); rintro e w4 ⟨rfl, hs⟩; have hs := HS.out.go hs; clear HS a0 a1 a2; have HS := Aside0.mk hs; clear hs; obtain ⟨a0, a1, a2⟩ := HS.out.cells)
              | (go_at_call 35; (with_reducible refine (CA.out _ HS.out).mono ?_); rintro e w5 ⟨rfl, rfl⟩)
              | (go_at_call 45; (with_reducible refine (CR.out _ HS.out).mono ?_); rintro e w6 ⟨rfl, rfl⟩))
            obtain ⟨rv, hrw⟩ := HS.out.1.rw_
            obtain ⟨Ar, cr, rfl⟩ := rd_slice hrw.row
            have r1 := hrw.c.2
            rw [List.length_nil] at r1
            have q1 := fun d os => cell_regrown r1 d os
            clear CA CR CX hrw r1 a0 a1 a2
            refine wp_region_quiet_below (by kernel_rfl) (by kernel_rfl) ?_
            repeat (go_big_quiet_step (first | (go_at_call 34; exact Calls.regrown_of (plx_lenb (N := 0) (HS.out.below (below_regrown _ _ _)) rfl))))
            refine wpQuiet_nil ?_
            intro _ hw'
            obtain ⟨⟨dq, osq⟩, hw''⟩ := hw'
            subst hw''
            go_wp2_with fail
            exact ⟨⟨k + 1, _, _, by omega, by simp, (HS.out.below (below_regrown _ dq osq)).1⟩, by simp [intOf]; omega⟩
        | cons t B =>
          as_aux_lemma =>
            have CX : Aside0 (Calls Try.prog 38 #[.pointer (some ⟨p, 0, none⟩)] wc fun e w' => e = .returned (.tuple #[.int .i64 t.2, .bool true]) ∧ Pl w b p m g nw (t :: B) nw (t :: B) w' ∧ Ak wc w') := ⟨pl_next HS.out.1⟩
            go_upto_region 24 with (first
              | (go_at_call 38; (with_reducible refine CX.out.mono ?_); rintro e w4 ⟨rfl, hs⟩; have hs := HS.out.go hs; clear HS a0 a1 a2; have HS := Aside0.mk hs; clear hs; obtain ⟨a0, a1, a2⟩ := HS.out.cells)
              | (go_at_call 35; (with_reducible refine (CA.out _ HS.out).mono ?_); rintro e w5 ⟨rfl, rfl⟩)
              | (go_at_call 45; (with_reducible refine (CR.out _ HS.out).mono ?_); rintro e w6 ⟨rfl, rfl⟩))
            obtain ⟨rv, hrw⟩ := HS.out.1.rw_
            obtain ⟨Ar, cr, rfl⟩ := rd_slice hrw.row
            have r1 := hrw.c.2
            obtain ⟨gl, off, rfl, r2, r3⟩ := rd_cells hrw.row (j := 0) (t := t) rfl
            rw [Nat.zero_mul, Nat.add_zero] at r2 r3
            have hlen := HS.out.1.len
            obtain ⟨N, hN⟩ : ∃ N, (t :: B).length = N := ⟨_, rfl⟩
            have HN := Aside0.mk hN
            rw [hN] at hlen r1
            have hN0 : 0 < N := by rw [← hN]; simp
            have hN1 : (0 : Int) < (N : Int) := by omega
            clear hN
            have q1 := fun d os => cell_regrown r1 d os
            have q2 := fun d os => cell_regrown r2 d os
            have q3 := fun d os => cell_regrown r3 d os
            clear CA CR CX hrw r1 r2 r3 a0 a1 a2
            refine wp_region_quiet_below (by kernel_rfl) (by kernel_rfl) ?_
            repeat (go_big_quiet_step (first | (go_at_call 34; exact Calls.regrown_of (plx_lenb (N := N) (HS.out.below (below_regrown _ _ _)) HN.out))))
            refine wpQuiet_nil ?_
            intro _ hw'
            obtain ⟨⟨dq, osq⟩, hw''⟩ := hw'
            subst hw''
            go_wp2_with fail
            exact ⟨⟨k + 1, _, _, by omega, by simp, (HS.out.below (below_regrown _ dq osq)).1⟩, by simp [intOf]; omega⟩
    · have hk' : k = acts.length := by omega
      have hlt' : ¬ (k : Int) < (acts.length : Int) := by omega
      clear hk'
      go_wp2_with fail
      go_ret
      exact ⟨rfl, HS.out.bel⟩
set_option maxRecDepth 100000 in
theorem play_bad (x0 : Int) (hr : x0 < 0 ∨ 1125899906842624 < x0) (A1 : Option Addr) (acts : List ActW) (c1 : Nat) (w : World) (hl1 : acts.length ≤ 140737488351232) :
    Calls Try.prog 9 #[.int .i64 x0, .slice A1 acts.length c1] w fun e w' => e = .returned (.bool true) ∧ Below w.heap.size w w' := by
  have C1 := Aside0.mk (new_bad w x0 hr)
  have C2 := Aside0.mk (new_rbad w x0 (by omega))
  clear hr
  go_enter Try.func9, Try.ntmps9
  go_wp2_with (first
    | (go_at_call 32; (with_reducible refine C1.out.mono ?_); rintro e w1 ⟨rfl, rfl⟩)
    | (go_at_call 39; (with_reducible refine C2.out.mono ?_); rintro e w2 ⟨rfl, rfl⟩)
    | (go_at_call 40; (with_reducible refine (names_s _).mono ?_); rintro e w3 ⟨rfl, rfl⟩))
  go_loopw [9] (fun iv W => iv = .int .i64 0 ∧ W = w) (fun _ _ => 0)
  case atStart => exact ⟨rfl, rfl⟩
  case round =>
    obtain ⟨rfl, rfl⟩ := hrel
    by_cases hlt : 0 < acts.length
    · go_wp2_with fail
      go_ret
      exact ⟨rfl, Below.refl _ _⟩
    · have hl0 : acts.length = 0 := by omega
      rw [hl0]
      go_wp2_with fail
      go_ret
      exact ⟨rfl, Below.refl _ _⟩
theorem plays_row (x0 : Int) (A1 : Option Addr) (acts : List ActW) (c1 : Nat) (w : World) (hr1 : Kd.C actK w A1 acts.length acts)
    (hok : ∀ x ∈ acts, (Lit.int .i64 x.1).wf = true ∧ (Lit.int .i64 x.2.1).wf = true ∧ (Lit.int .i64 x.2.2).wf = true) (hl1 : acts.length * Try.prog.bytesOf 68 ≤ reachBytes) :
    Calls Try.prog 9 #[.int .i64 x0, .slice A1 acts.length c1] w fun e w' => e = .returned (.bool true) ∧ Below w.heap.size w w' := by
  have e2 : 0 < Try.prog.bytesOf 68 := by decide +kernel
  have e4 : reachBytes = 140737488351232 := by decide +kernel
  have hl2 : acts.length ≤ 140737488351232 := by
    rw [e4] at hl1
    exact Nat.le_trans (Nat.le_mul_of_pos_right _ e2) hl1
  by_cases hr : x0 < 0 ∨ 1125899906842624 < x0
  · exact play_bad x0 hr A1 acts c1 w hl2
  · exact play_good x0 (by omega) (by omega) A1 acts c1 w hl2 hr1 (fun x hx => (hok x hx).2.1)
end Go.Proofs.Ytakmcbakogjeeaa.Wr
