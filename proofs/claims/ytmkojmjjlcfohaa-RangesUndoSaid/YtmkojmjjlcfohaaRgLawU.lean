/- RangesUndo: the law's walk; no condition but the reach of its arguments. -/
import Derived.Test.YtmkojmjjlcfohaaRgPure2
import Derived.Test.YtmkojmjjlcfohaaRgLawC
set_option linter.unusedVariables false
set_option linter.unusedSimpArgs false
namespace Go.Proofs.Ytmkojmjjlcfohaa.Rg
open Go.RowKit Go.Shelf Go.Proofs.YtmkojmjjlcfohaaW.PrintWords Go.Proofs.YtmkojmjjlcfohaaW.PrintLast Go.Proofs.YtmkojmjjlcfohaaW.PrintMore Go.Proofs.Ytmkojmjjlcfohaa.Rw
set_option maxRecDepth 100000 in
set_option maxHeartbeats 6400000 in
theorem undo_walk (A1 : Option Addr) (l : List Sp) (c1 : Nat) (x1 x2 : Int) (w : World) (hx : x1 ≤ 9223372036854775807) (hxb : x2 ≤ 9223372036854775807)
    (hr1 : Kd.C spK w A1 l.length l) (hl1 : l.length ≤ 140737488351232) :
    Calls Try.prog 9 #[.slice A1 l.length c1, .agg #[.int .i64 x1, .int .i64 x2]] w fun e w' => e = .returned (.bool true) ∧ Below w.heap.size w w' := by
  have HR1 := Aside0.mk hr1
  have HX := Aside0.mk hx
  have HXB := Aside0.mk hxb
  have hn1 : (l.length : Int) ≤ 140737488351232 := by omega
  clear hr1 hl1 hx hxb
  go_enter Try.func9, Try.ntmps9
  go_wp2_with (first
    | (go_at_call 16; refine (one_new _ _ (Below.refl _ _)).mono ?_; rintro e w1 ⟨g, rfl, hs⟩; have hx0 := heap_alloc_new w (.cells #[.int .i64 x1, .int .i64 x2] 39); have hbw := below_alloc (Below.refl w.heap.size w) (.cells #[.int .i64 x1, .int .i64 x2] 39); obtain ⟨W0, hW0⟩ : ∃ W0, w.alloc (.cells #[.int .i64 x1, .int .i64 x2] 39) = W0 := ⟨_, rfl⟩; rw [hW0] at hs hx0 hbw; clear hW0; have HS := Aside0.mk hs; have HX0 := Aside0.mk hx0; have HBW := Aside0.mk hbw; clear hs hx0 hbw)
    | (go_at_call 17; refine (one_add HS.out 1 2).mono ?_; rw [addR_first]; rintro e w2 ⟨rfl, hs⟩; have n0 := Aside0.mk hs; clear hs HS; have HS := n0; clear n0)
    | (go_at_call 20; refine (one_spans (one_rk _ _ _) HS.out HS.out.r).mono ?_; rintro e w2 ⟨rfl, hs⟩; have n0 := Aside0.mk hs; clear hs HS; have HS := n0; clear n0)
    | (go_at_call 19; refine (one_rem HS.out 1 2).mono ?_; rw [remR_first]; rintro e w3 ⟨rfl, hs⟩; have n0 := Aside0.mk hs; clear hs HS; have HS := n0; clear n0))
  go_loopw [6] (fun i W => CRel W0 g l.length i W) (fun i _ => l.length - (intOf i).toNat)
  case atStart => exact ⟨0, [], by omega, rfl, HS.out⟩
  case round =>
    clear HS
    obtain ⟨k, L, hk, rfl, hs⟩ := hrel
    have HS := Aside0.mk hs
    clear hs
    by_cases hlt : k < l.length
    · obtain ⟨y, hy⟩ : ∃ y, l[k]? = some y := ⟨_, List.getElem?_eq_getElem hlt⟩
      obtain ⟨ad, hA1, g0, g1⟩ := came_span HR1.out hy
      subst hA1
      have e0 := pw_cell_below HS.out.bel (pw_cell_below HBW.out g0)
      have e1 := pw_cell_below HS.out.bel (pw_cell_below HBW.out g1)
      have hk1 : (k : Int) < (l.length : Int) := by omega
      rw [add_field _ _ _ (by decide)] at e1
      clear g0 g1 hy
      go_wp2_with fail
      go_region_law (go_simp; go_at_call 17; refine (one_add (show Kst W0 (One W0.heap.size g L) _ from by first | exact HS.out | exact HS.out.below (one_rk _ _ _) (bl_drewN _)) y.1 y.2).mono ?_; rintro e W1 ⟨rfl, hs⟩; have n0 := Aside0.mk hs; clear HS e0 e1; have HS := n0; clear n0 hs)
      all_goals
        go_wp2_with fail
        go_roundw
        case rel => exact ⟨k + 1, _, by omega, by simp, HS.out⟩
        case measure => simp [intOf]; omega
    · obtain ⟨vv, hsv⟩ := HS.out.r
      have hfew : (L.length : Int) ≤ 65536 := by have := hsv.few; omega
      have HU := Aside0.mk (undo_cases L hsv.ok x1 x2 hsv.few)
      have hx0 : W0.cell? ⟨w.heap.size, 0, none⟩ = some (.int .i64 x1) := by rw [cell_of_row W0 _ _ _ _ _ HX0.out]; rfl
      have hx1 : W0.cell? ⟨w.heap.size, 1, none⟩ = some (.int .i64 x2) := by rw [cell_of_row W0 _ _ _ _ _ HX0.out]; rfl
      have HX00 := Aside0.mk hx0
      have HX01 := Aside0.mk hx1
      have a0 := pw_cell_below HS.out.bel HX00.out
      have a1 := pw_cell_below HS.out.bel HX01.out
      clear hsv hx0 hx1
      rcases HU.out with ⟨hbad, hrm⟩ | ⟨⟨h0, h1, h2⟩, ⟨hbig, hrm⟩ | ⟨M, hMo, hMf, hrm, hf1, hf2, hgp, ⟨hbig, had⟩ | ⟨N, had, hn1, hn2, hrm2⟩⟩⟩
      · have HRM := Aside0.mk hrm
        clear hrm HU
        by_cases hb0 : x1 < 0
        · clear hbad
          go_wp2_with (first
          | (go_at_call 19; with_reducible refine (one_rem HS.out x1 x2).mono ?_; rw [HRM.out]; rintro e w2 ⟨rfl, hs⟩; have n0 := Aside0.mk hs; clear hs HS; (try clear a0 a1); have HS := n0; clear n0; have a0 := pw_cell_below HS.out.bel HX00.out; have a1 := pw_cell_below HS.out.bel HX01.out))
          go_ret
          exact ⟨rfl, HBW.out.trans (HS.out.bel.mono HBW.out.size)⟩
        · by_cases hb1 : x2 > 4611686018427387903
          · clear hbad
            go_wp2_with (first
          | (go_at_call 19; with_reducible refine (one_rem HS.out x1 x2).mono ?_; rw [HRM.out]; rintro e w2 ⟨rfl, hs⟩; have n0 := Aside0.mk hs; clear hs HS; (try clear a0 a1); have HS := n0; clear n0; have a0 := pw_cell_below HS.out.bel HX00.out; have a1 := pw_cell_below HS.out.bel HX01.out))
            go_ret
            exact ⟨rfl, HBW.out.trans (HS.out.bel.mono HBW.out.size)⟩
          · have hb2 : x1 > x2 := by omega
            clear hbad
            go_wp2_with (first
          | (go_at_call 19; with_reducible refine (one_rem HS.out x1 x2).mono ?_; rw [HRM.out]; rintro e w2 ⟨rfl, hs⟩; have n0 := Aside0.mk hs; clear hs HS; (try clear a0 a1); have HS := n0; clear n0; have a0 := pw_cell_below HS.out.bel HX00.out; have a1 := pw_cell_below HS.out.bel HX01.out))
            go_ret
            exact ⟨rfl, HBW.out.trans (HS.out.bel.mono HBW.out.size)⟩
      · have HRM := Aside0.mk hrm
        have hbig' : (65536 : Int) ≤ (L.length : Int) := by omega
        clear hrm HU hbig
        go_wp2_with (first
          | (go_at_call 19; with_reducible refine (one_rem HS.out x1 x2).mono ?_; rw [HRM.out]; rintro e w2 ⟨rfl, hs⟩; have n0 := Aside0.mk hs; clear hs HS; (try clear a0 a1); have HS := n0; clear n0; have a0 := pw_cell_below HS.out.bel HX00.out; have a1 := pw_cell_below HS.out.bel HX01.out)
          | (go_at_call 20; with_reducible refine (one_spans (one_rk _ _ _) HS.out HS.out.r).mono ?_; rintro e w2 ⟨rfl, hs⟩; have n0 := Aside0.mk hs; clear hs HS; (try clear a0 a1); have HS := n0; clear n0; have a0 := pw_cell_below HS.out.bel HX00.out; have a1 := pw_cell_below HS.out.bel HX01.out))
        go_ret
        exact ⟨rfl, HBW.out.trans (HS.out.bel.mono HBW.out.size)⟩
      · have HRM := Aside0.mk hrm
        have HAD := Aside0.mk had
        have HF1 := Aside0.mk hf1
        have HF2 := Aside0.mk hf2
        have HGP := Aside0.mk hgp
        have hbig' : (65536 : Int) ≤ (M.length : Int) := by omega
        clear hrm HU had hf1 hf2 hgp hbig hMo
        go_wp2_with (first
          | (go_at_call 19; with_reducible refine (one_rem HS.out x1 x2).mono ?_; rw [HRM.out]; rintro e w2 ⟨rfl, hs⟩; have n0 := Aside0.mk hs; clear hs HS; (try clear a0 a1); have HS := n0; clear n0; have a0 := pw_cell_below HS.out.bel HX00.out; have a1 := pw_cell_below HS.out.bel HX01.out)
          | (go_at_call 22; with_reducible refine (one_clone HS.out).mono ?_; rintro e w2 ⟨g2, rfl, hs⟩; have n0 := Aside0.mk hs; clear hs HS; (try clear a0 a1); have HS := n0; clear n0; have a0 := pw_cell_below HS.out.bel HX00.out; have a1 := pw_cell_below HS.out.bel HX01.out))
        go_cut [99] from 77 to 99 (fun c wx => c = .bool false ∧ Kst W0 (Two W0.heap.size g M g2 M) wx)
        case first =>
          go_region_law (first
          | (go_simp; go_at_call 18; with_reducible refine (one_has (two_rk _ _ _ _ _) (show Kst W0 (Two W0.heap.size g M g2 M) _ from by first | exact HS.out | exact HS.out.below (two_rk _ _ _ _ _) (Below.refl _ _).drew | exact HS.out.below (two_rk _ _ _ _ _) (bl_drewN _)) (show One W0.heap.size g M _ from by first | exact HS.out.r.left | exact (HS.out.below (two_rk _ _ _ _ _) (Below.refl _ _).drew).r.left | exact (HS.out.below (two_rk _ _ _ _ _) (bl_drewN _)).r.left) x1 HX.out).mono ?_; rw [HF1.out]; rintro e w2 ⟨rfl, hs⟩; have n0 := Aside0.mk hs; clear hs HS; (try clear a0 a1); have HS := n0; clear n0; have a0 := pw_cell_below HS.out.bel HX00.out; have a1 := pw_cell_below HS.out.bel HX01.out)
          | (go_simp; go_at_call 18; with_reducible refine (one_has (two_rk _ _ _ _ _) (show Kst W0 (Two W0.heap.size g M g2 M) _ from by first | exact HS.out | exact HS.out.below (two_rk _ _ _ _ _) (Below.refl _ _).drew | exact HS.out.below (two_rk _ _ _ _ _) (bl_drewN _)) (show One W0.heap.size g M _ from by first | exact HS.out.r.left | exact (HS.out.below (two_rk _ _ _ _ _) (Below.refl _ _).drew).r.left | exact (HS.out.below (two_rk _ _ _ _ _) (bl_drewN _)).r.left) x2 HXB.out).mono ?_; rw [HF2.out]; rintro e w2 ⟨rfl, hs⟩; have n0 := Aside0.mk hs; clear hs HS; (try clear a0 a1); have HS := n0; clear n0; have a0 := pw_cell_below HS.out.bel HX00.out; have a1 := pw_cell_below HS.out.bel HX01.out)
          | (go_simp; go_at_call 28; with_reducible refine (one_gap (two_rk _ _ _ _ _) (show Kst W0 (Two W0.heap.size g M g2 M) _ from by first | exact HS.out | exact HS.out.below (two_rk _ _ _ _ _) (Below.refl _ _).drew | exact HS.out.below (two_rk _ _ _ _ _) (bl_drewN _)) (show One W0.heap.size g M _ from by first | exact HS.out.r.left | exact (HS.out.below (two_rk _ _ _ _ _) (Below.refl _ _).drew).r.left | exact (HS.out.below (two_rk _ _ _ _ _) (bl_drewN _)).r.left) x1 HX.out).mono ?_; rw [HGP.out]; rintro e w2 ⟨rfl, hs⟩; have n0 := Aside0.mk hs; clear hs HS; (try clear a0 a1); have HS := n0; clear n0; have a0 := pw_cell_below HS.out.bel HX00.out; have a1 := pw_cell_below HS.out.bel HX01.out))
          all_goals
            go_wp2_with fail
            go_meet
            exact ⟨rfl, HS.out⟩
        case rest =>
          obtain ⟨rfl, hs⟩ := hcut
          have n0 := Aside0.mk hs
          clear hs HS a0 a1
          have HS := n0
          clear n0
          have a0 := pw_cell_below HS.out.bel HX00.out
          have a1 := pw_cell_below HS.out.bel HX01.out
          go_wp2_with (first
          | (go_at_call 17; with_reducible refine (two_add HS.out x1 x2).mono ?_; rw [HAD.out]; rintro e w2 ⟨rfl, hs⟩; have n0 := Aside0.mk hs; clear hs HS; (try clear a0 a1); have HS := n0; clear n0; have a0 := pw_cell_below HS.out.bel HX00.out; have a1 := pw_cell_below HS.out.bel HX01.out)
          | (go_at_call 20; with_reducible refine (one_spans (two_rk _ _ _ _ _) HS.out HS.out.r.left).mono ?_; rintro e w2 ⟨rfl, hs⟩; have n0 := Aside0.mk hs; clear hs HS; (try clear a0 a1); have HS := n0; clear n0; have a0 := pw_cell_below HS.out.bel HX00.out; have a1 := pw_cell_below HS.out.bel HX01.out))
          go_ret
          exact ⟨rfl, HBW.out.trans (HS.out.bel.mono HBW.out.size)⟩
      · have HRM := Aside0.mk hrm
        have HAD := Aside0.mk had
        have HF1 := Aside0.mk hf1
        have HF2 := Aside0.mk hf2
        have HGP := Aside0.mk hgp
        have HN1 := Aside0.mk hn1
        have HN2 := Aside0.mk hn2
        have HRN := Aside0.mk hrm2
        clear hrm HU had hf1 hf2 hgp hMo hn1 hn2 hrm2
        go_wp2_with (first
          | (go_at_call 19; with_reducible refine (one_rem HS.out x1 x2).mono ?_; rw [HRM.out]; rintro e w2 ⟨rfl, hs⟩; have n0 := Aside0.mk hs; clear hs HS; (try clear a0 a1); have HS := n0; clear n0; have a0 := pw_cell_below HS.out.bel HX00.out; have a1 := pw_cell_below HS.out.bel HX01.out)
          | (go_at_call 22; with_reducible refine (one_clone HS.out).mono ?_; rintro e w2 ⟨g2, rfl, hs⟩; have n0 := Aside0.mk hs; clear hs HS; (try clear a0 a1); have HS := n0; clear n0; have a0 := pw_cell_below HS.out.bel HX00.out; have a1 := pw_cell_below HS.out.bel HX01.out))
        go_cut [99] from 77 to 99 (fun c wx => c = .bool false ∧ Kst W0 (Two W0.heap.size g M g2 M) wx)
        case first =>
          go_region_law (first
          | (go_simp; go_at_call 18; with_reducible refine (one_has (two_rk _ _ _ _ _) (show Kst W0 (Two W0.heap.size g M g2 M) _ from by first | exact HS.out | exact HS.out.below (two_rk _ _ _ _ _) (Below.refl _ _).drew | exact HS.out.below (two_rk _ _ _ _ _) (bl_drewN _)) (show One W0.heap.size g M _ from by first | exact HS.out.r.left | exact (HS.out.below (two_rk _ _ _ _ _) (Below.refl _ _).drew).r.left | exact (HS.out.below (two_rk _ _ _ _ _) (bl_drewN _)).r.left) x1 HX.out).mono ?_; rw [HF1.out]; rintro e w2 ⟨rfl, hs⟩; have n0 := Aside0.mk hs; clear hs HS; (try clear a0 a1); have HS := n0; clear n0; have a0 := pw_cell_below HS.out.bel HX00.out; have a1 := pw_cell_below HS.out.bel HX01.out)
          | (go_simp; go_at_call 18; with_reducible refine (one_has (two_rk _ _ _ _ _) (show Kst W0 (Two W0.heap.size g M g2 M) _ from by first | exact HS.out | exact HS.out.below (two_rk _ _ _ _ _) (Below.refl _ _).drew | exact HS.out.below (two_rk _ _ _ _ _) (bl_drewN _)) (show One W0.heap.size g M _ from by first | exact HS.out.r.left | exact (HS.out.below (two_rk _ _ _ _ _) (Below.refl _ _).drew).r.left | exact (HS.out.below (two_rk _ _ _ _ _) (bl_drewN _)).r.left) x2 HXB.out).mono ?_; rw [HF2.out]; rintro e w2 ⟨rfl, hs⟩; have n0 := Aside0.mk hs; clear hs HS; (try clear a0 a1); have HS := n0; clear n0; have a0 := pw_cell_below HS.out.bel HX00.out; have a1 := pw_cell_below HS.out.bel HX01.out)
          | (go_simp; go_at_call 28; with_reducible refine (one_gap (two_rk _ _ _ _ _) (show Kst W0 (Two W0.heap.size g M g2 M) _ from by first | exact HS.out | exact HS.out.below (two_rk _ _ _ _ _) (Below.refl _ _).drew | exact HS.out.below (two_rk _ _ _ _ _) (bl_drewN _)) (show One W0.heap.size g M _ from by first | exact HS.out.r.left | exact (HS.out.below (two_rk _ _ _ _ _) (Below.refl _ _).drew).r.left | exact (HS.out.below (two_rk _ _ _ _ _) (bl_drewN _)).r.left) x1 HX.out).mono ?_; rw [HGP.out]; rintro e w2 ⟨rfl, hs⟩; have n0 := Aside0.mk hs; clear hs HS; (try clear a0 a1); have HS := n0; clear n0; have a0 := pw_cell_below HS.out.bel HX00.out; have a1 := pw_cell_below HS.out.bel HX01.out))
          all_goals
            go_wp2_with fail
            go_meet
            exact ⟨rfl, HS.out⟩
        case rest =>
          obtain ⟨rfl, hs⟩ := hcut
          have n0 := Aside0.mk hs
          clear hs HS a0 a1
          have HS := n0
          clear n0
          have a0 := pw_cell_below HS.out.bel HX00.out
          have a1 := pw_cell_below HS.out.bel HX01.out
          go_wp2_with (first
          | (go_at_call 17; with_reducible refine (two_add HS.out x1 x2).mono ?_; rw [HAD.out]; rintro e w2 ⟨rfl, hs⟩; have n0 := Aside0.mk hs; clear hs HS; (try clear a0 a1); have HS := n0; clear n0; have a0 := pw_cell_below HS.out.bel HX00.out; have a1 := pw_cell_below HS.out.bel HX01.out)
          | (go_at_call 18; with_reducible refine (one_has (two_rk _ _ _ _ _) HS.out HS.out.r.left x1 HX.out).mono ?_; rw [HN1.out]; rintro e w2 ⟨rfl, hs⟩; have n0 := Aside0.mk hs; clear hs HS; (try clear a0 a1); have HS := n0; clear n0; have a0 := pw_cell_below HS.out.bel HX00.out; have a1 := pw_cell_below HS.out.bel HX01.out)
          | (go_at_call 18; with_reducible refine (one_has (two_rk _ _ _ _ _) HS.out HS.out.r.left x2 HXB.out).mono ?_; rw [HN2.out]; rintro e w2 ⟨rfl, hs⟩; have n0 := Aside0.mk hs; clear hs HS; (try clear a0 a1); have HS := n0; clear n0; have a0 := pw_cell_below HS.out.bel HX00.out; have a1 := pw_cell_below HS.out.bel HX01.out)
          | (go_at_call 19; with_reducible refine (two_rem HS.out x1 x2).mono ?_; rw [HRN.out]; rintro e w2 ⟨rfl, hs⟩; have n0 := Aside0.mk hs; clear hs HS; (try clear a0 a1); have HS := n0; clear n0; have a0 := pw_cell_below HS.out.bel HX00.out; have a1 := pw_cell_below HS.out.bel HX01.out)
          | (go_at_call 20; with_reducible refine (one_spans (two_rk _ _ _ _ _) HS.out HS.out.r.left).mono ?_; rintro e w2 ⟨rfl, hs⟩; have n0 := Aside0.mk hs; clear hs HS; (try clear a0 a1); have HS := n0; clear n0; have a0 := pw_cell_below HS.out.bel HX00.out; have a1 := pw_cell_below HS.out.bel HX01.out)
          | (go_at_call 20; with_reducible refine (one_spans (two_rk _ _ _ _ _) HS.out HS.out.r.right).mono ?_; rintro e w2 ⟨rfl, hs⟩; have n0 := Aside0.mk hs; clear hs HS; (try clear a0 a1); have HS := n0; clear n0; have a0 := pw_cell_below HS.out.bel HX00.out; have a1 := pw_cell_below HS.out.bel HX01.out)
          | (go_at_call 27; with_reducible refine (one_ends (two_rk _ _ _ _ _) HS.out HS.out.r.left).mono ?_; rintro e w2 ⟨rfl, hs⟩; have n0 := Aside0.mk hs; clear hs HS; (try clear a0 a1); have HS := n0; clear n0; have a0 := pw_cell_below HS.out.bel HX00.out; have a1 := pw_cell_below HS.out.bel HX01.out)
          | (go_at_call 27; with_reducible refine (one_ends (two_rk _ _ _ _ _) HS.out HS.out.r.right).mono ?_; rintro e w2 ⟨rfl, hs⟩; have n0 := Aside0.mk hs; clear hs HS; (try clear a0 a1); have HS := n0; clear n0; have a0 := pw_cell_below HS.out.bel HX00.out; have a1 := pw_cell_below HS.out.bel HX01.out))
          go_ret
          exact ⟨rfl, HBW.out.trans (HS.out.bel.mono HBW.out.size)⟩
theorem undo_row (A1 : Option Addr) (l : List Sp) (c1 : Nat) (x1 x2 : Int) (w : World) (hx : (Lit.int .i64 x1).wf = true) (hx2 : (Lit.int .i64 x2).wf = true)
    (hr1 : Kd.C spK w A1 l.length l) (hl1 : l.length * Try.prog.bytesOf 39 ≤ reachBytes) :
    Calls Try.prog 9 #[.slice A1 l.length c1, .agg #[.int .i64 x1, .int .i64 x2]] w fun e w' => e = .returned (.bool true) ∧ Below w.heap.size w w' := by
  have e2 : Try.prog.bytesOf 39 = 16 := by kernel_rfl
  have e4 : reachBytes = 140737488351232 := by decide +kernel
  rw [e2, e4] at hl1
  have m0 : IntKind.i64.min = -9223372036854775808 := by decide +kernel
  have m1 : IntKind.i64.max = 9223372036854775807 := by decide +kernel
  simp [Lit.wf, m0, m1] at hx hx2
  exact undo_walk A1 l c1 x1 x2 w hx.2 hx2.2 hr1 (by omega)
end Go.Proofs.Ytmkojmjjlcfohaa.Rg
