/- RangesClone: the law's walk; no condition but the reach of its arguments. -/
import Derived.Test.YtmkojmjjlcfohaaRgTwo
set_option linter.unusedVariables false
set_option linter.unusedSimpArgs false
namespace Go.Proofs.Ytmkojmjjlcfohaa.Rg
open Go.RowKit Go.Shelf Go.Proofs.YtmkojmjjlcfohaaW.PrintWords Go.Proofs.YtmkojmjjlcfohaaW.PrintLast Go.Proofs.YtmkojmjjlcfohaaW.PrintMore Go.Proofs.Ytmkojmjjlcfohaa.Rw
def CRel (w : World) (g n : Nat) (i : Value) (W : World) : Prop := ∃ (k : Nat) (L : List Sp), k ≤ n ∧ i = .int .i64 k ∧ Kst w (One w.heap.size g L) W
set_option maxRecDepth 100000 in
set_option maxHeartbeats 800000 in
theorem clone_walk (A1 : Option Addr) (l : List Sp) (c1 : Nat) (x1 x2 : Int) (w : World) (hx : x1 ≤ 9223372036854775807)
    (hr1 : Kd.C spK w A1 l.length l) (hl1 : l.length ≤ 140737488351232) :
    Calls Try.prog 5 #[.slice A1 l.length c1, .agg #[.int .i64 x1, .int .i64 x2]] w fun e w' => e = .returned (.bool true) ∧ Below w.heap.size w w' := by
  have HR1 := Aside0.mk hr1
  have HX := Aside0.mk hx
  have hn1 : (l.length : Int) ≤ 140737488351232 := by omega
  clear hr1 hl1 hx
  go_enter Try.func5, Try.ntmps5
  go_wp2_with (first
    | (go_at_call 16; refine (one_new _ _ (Below.refl _ _)).mono ?_; rintro e w1 ⟨g, rfl, hs⟩; have hx0 := heap_alloc_new w (.cells #[.int .i64 x1, .int .i64 x2] 39); have hbw := below_alloc (Below.refl w.heap.size w) (.cells #[.int .i64 x1, .int .i64 x2] 39); obtain ⟨W0, hW0⟩ : ∃ W0, w.alloc (.cells #[.int .i64 x1, .int .i64 x2] 39) = W0 := ⟨_, rfl⟩; rw [hW0] at hs hx0 hbw; clear hW0; have HS := Aside0.mk hs; have HX0 := Aside0.mk hx0; have HBW := Aside0.mk hbw; clear hs hx0 hbw)
    | (go_at_call 17; refine (one_add HS.out 1 2).mono ?_; rw [addR_first]; rintro e w2 ⟨rfl, hs⟩; have n0 := Aside0.mk hs; clear hs HS; have HS := n0; clear n0)
    | (go_at_call 19; refine (one_rem HS.out 1 2).mono ?_; rw [remR_first]; rintro e w3 ⟨rfl, hs⟩; have n0 := Aside0.mk hs; clear hs HS; have HS := n0; clear n0))
  go_loopw [6] (fun i W => CRel W0 g l.length i W) (fun i _ => l.length - (intOf i).toNat)
  case atStart => exact ⟨0, [], by omega, rfl, HS.out⟩
  case round =>
    clear HS
    obtain ⟨k, L, hk, rfl, hs⟩ := hrel
    have HS := Aside0.mk hs
    clear hs
    by_cases hlt : k < l.length
    · obtain ⟨y, hy⟩ : ∃ y, l[k]? = some y := ⟨_, List.getElem?_eq_getElem hlt⟩
      obtain ⟨ad, hA1, g0, g1⟩ := came_span HR1.out hy
      subst hA1
      have e0 := pw_cell_below HS.out.bel (pw_cell_below HBW.out g0)
      have e1 := pw_cell_below HS.out.bel (pw_cell_below HBW.out g1)
      have hk1 : (k : Int) < (l.length : Int) := by omega
      rw [add_field _ _ _ (by decide)] at e1
      clear g0 g1 hy
      go_wp2_with fail
      go_region_law (go_simp; go_at_call 17; refine (one_add (show Kst W0 (One W0.heap.size g L) _ from by first | exact HS.out | exact HS.out.below (one_rk _ _ _) (bl_drewN _)) y.1 y.2).mono ?_; rintro e W1 ⟨rfl, hs⟩; have n0 := Aside0.mk hs; clear HS e0 e1; have HS := n0; clear n0 hs)
      all_goals
        go_wp2_with fail
        go_roundw
        case rel => exact ⟨k + 1, _, by omega, by simp, HS.out⟩
        case measure => simp [intOf]; omega
    · obtain ⟨c, L2, hcl⟩ : ∃ c L2, addR L x1 x2 = (c, L2) := ⟨_, _, rfl⟩
      obtain ⟨vv, hsv⟩ := HS.out.r
      have hok := hsv.ok
      have hfew : (L.length : Int) ≤ 65536 := by have := hsv.few; omega
      have HRA := Aside0.mk (remR_all hok)
      have hx0 : W0.cell? ⟨w.heap.size, 0, none⟩ = some (.int .i64 x1) := by rw [cell_of_row W0 _ _ _ _ _ HX0.out]; rfl
      have hx1 : W0.cell? ⟨w.heap.size, 1, none⟩ = some (.int .i64 x2) := by rw [cell_of_row W0 _ _ _ _ _ HX0.out]; rfl
      have HX00 := Aside0.mk hx0
      have HX01 := Aside0.mk hx1
      have HC := Aside0.mk hcl
      have hh : c = 0 → hasL L2 x1 = true := fun h0 => by
        have := addR_has (f := x1) (l := x2) hok (by rw [hcl]; exact h0)
        rw [hcl] at this
        exact this
      have HH := Aside0.mk hh
      clear hsv hok hcl hh hx0 hx1
      by_cases h0 : c = 0
      · subst h0
        have HH1 := Aside0.mk (HH.out rfl)
        clear HH
        go_wp2_with (first
          | (go_at_call 22; with_reducible refine (one_clone HS.out).mono ?_; rintro e w2 ⟨g2, rfl, hs⟩; have n0 := Aside0.mk hs; clear hs HS; (try clear a0 a1); have HS := n0; clear n0; have a0 := pw_cell_below HS.out.bel HX00.out; have a1 := pw_cell_below HS.out.bel HX01.out)
          | (go_at_call 20; with_reducible refine (one_spans (one_rk _ _ _) HS.out HS.out.r).mono ?_; rintro e w2 ⟨rfl, hs⟩; have n0 := Aside0.mk hs; clear hs HS; (try clear a0 a1); have HS := n0; clear n0; have a0 := pw_cell_below HS.out.bel HX00.out; have a1 := pw_cell_below HS.out.bel HX01.out)
          | (go_at_call 20; with_reducible refine (one_spans (two_rk _ _ _ _ _) HS.out HS.out.r.left).mono ?_; rintro e w2 ⟨rfl, hs⟩; have n0 := Aside0.mk hs; clear hs HS; (try clear a0 a1); have HS := n0; clear n0; have a0 := pw_cell_below HS.out.bel HX00.out; have a1 := pw_cell_below HS.out.bel HX01.out)
          | (go_at_call 20; with_reducible refine (one_spans (two_rk _ _ _ _ _) HS.out HS.out.r.right).mono ?_; rintro e w2 ⟨rfl, hs⟩; have n0 := Aside0.mk hs; clear hs HS; (try clear a0 a1); have HS := n0; clear n0; have a0 := pw_cell_below HS.out.bel HX00.out; have a1 := pw_cell_below HS.out.bel HX01.out)
          | (go_at_call 18; with_reducible refine (one_has (two_rk _ _ _ _ _) HS.out HS.out.r.left x1 HX.out).mono ?_; rintro e w2 ⟨rfl, hs⟩; have n0 := Aside0.mk hs; clear hs HS; (try clear a0 a1); have HS := n0; clear n0; have a0 := pw_cell_below HS.out.bel HX00.out; have a1 := pw_cell_below HS.out.bel HX01.out)
          | (go_at_call 18; with_reducible refine (one_has (two_rk _ _ _ _ _) HS.out HS.out.r.right x1 HX.out).mono ?_; (try rw [HH1.out]); rintro e w2 ⟨rfl, hs⟩; have n0 := Aside0.mk hs; clear hs HS; (try clear a0 a1); have HS := n0; clear n0; have a0 := pw_cell_below HS.out.bel HX00.out; have a1 := pw_cell_below HS.out.bel HX01.out)
          | (go_at_call 17; with_reducible refine (two_add2 HS.out x1 x2).mono ?_; rw [HC.out]; rintro e w2 ⟨rfl, hs⟩; have n0 := Aside0.mk hs; clear hs HS; (try clear a0 a1); have HS := n0; clear n0; have a0 := pw_cell_below HS.out.bel HX00.out; have a1 := pw_cell_below HS.out.bel HX01.out)
          | (go_at_call 19; with_reducible refine (two_rem HS.out 0 4611686018427387903).mono ?_; rw [HRA.out]; rintro e w2 ⟨rfl, hs⟩; have n0 := Aside0.mk hs; clear hs HS; (try clear a0 a1); have HS := n0; clear n0; have a0 := pw_cell_below HS.out.bel HX00.out; have a1 := pw_cell_below HS.out.bel HX01.out))
        go_ret
        exact ⟨rfl, HBW.out.trans (HS.out.bel.mono HBW.out.size)⟩
      · clear HH
        go_wp2_with (first
          | (go_at_call 22; with_reducible refine (one_clone HS.out).mono ?_; rintro e w2 ⟨g2, rfl, hs⟩; have n0 := Aside0.mk hs; clear hs HS; (try clear a0 a1); have HS := n0; clear n0; have a0 := pw_cell_below HS.out.bel HX00.out; have a1 := pw_cell_below HS.out.bel HX01.out)
          | (go_at_call 20; with_reducible refine (one_spans (one_rk _ _ _) HS.out HS.out.r).mono ?_; rintro e w2 ⟨rfl, hs⟩; have n0 := Aside0.mk hs; clear hs HS; (try clear a0 a1); have HS := n0; clear n0; have a0 := pw_cell_below HS.out.bel HX00.out; have a1 := pw_cell_below HS.out.bel HX01.out)
          | (go_at_call 20; with_reducible refine (one_spans (two_rk _ _ _ _ _) HS.out HS.out.r.left).mono ?_; rintro e w2 ⟨rfl, hs⟩; have n0 := Aside0.mk hs; clear hs HS; (try clear a0 a1); have HS := n0; clear n0; have a0 := pw_cell_below HS.out.bel HX00.out; have a1 := pw_cell_below HS.out.bel HX01.out)
          | (go_at_call 20; with_reducible refine (one_spans (two_rk _ _ _ _ _) HS.out HS.out.r.right).mono ?_; rintro e w2 ⟨rfl, hs⟩; have n0 := Aside0.mk hs; clear hs HS; (try clear a0 a1); have HS := n0; clear n0; have a0 := pw_cell_below HS.out.bel HX00.out; have a1 := pw_cell_below HS.out.bel HX01.out)
          | (go_at_call 18; with_reducible refine (one_has (two_rk _ _ _ _ _) HS.out HS.out.r.left x1 HX.out).mono ?_; rintro e w2 ⟨rfl, hs⟩; have n0 := Aside0.mk hs; clear hs HS; (try clear a0 a1); have HS := n0; clear n0; have a0 := pw_cell_below HS.out.bel HX00.out; have a1 := pw_cell_below HS.out.bel HX01.out)
          | (go_at_call 18; with_reducible refine (one_has (two_rk _ _ _ _ _) HS.out HS.out.r.right x1 HX.out).mono ?_; (try rw [HH1.out]); rintro e w2 ⟨rfl, hs⟩; have n0 := Aside0.mk hs; clear hs HS; (try clear a0 a1); have HS := n0; clear n0; have a0 := pw_cell_below HS.out.bel HX00.out; have a1 := pw_cell_below HS.out.bel HX01.out)
          | (go_at_call 17; with_reducible refine (two_add2 HS.out x1 x2).mono ?_; rw [HC.out]; rintro e w2 ⟨rfl, hs⟩; have n0 := Aside0.mk hs; clear hs HS; (try clear a0 a1); have HS := n0; clear n0; have a0 := pw_cell_below HS.out.bel HX00.out; have a1 := pw_cell_below HS.out.bel HX01.out)
          | (go_at_call 19; with_reducible refine (two_rem HS.out 0 4611686018427387903).mono ?_; rw [HRA.out]; rintro e w2 ⟨rfl, hs⟩; have n0 := Aside0.mk hs; clear hs HS; (try clear a0 a1); have HS := n0; clear n0; have a0 := pw_cell_below HS.out.bel HX00.out; have a1 := pw_cell_below HS.out.bel HX01.out))
        go_ret
        exact ⟨rfl, HBW.out.trans (HS.out.bel.mono HBW.out.size)⟩
theorem clone_row (A1 : Option Addr) (l : List Sp) (c1 : Nat) (x1 x2 : Int) (w : World) (hx : (Lit.int .i64 x1).wf = true)
    (hr1 : Kd.C spK w A1 l.length l) (hl1 : l.length * Try.prog.bytesOf 39 ≤ reachBytes) :
    Calls Try.prog 5 #[.slice A1 l.length c1, .agg #[.int .i64 x1, .int .i64 x2]] w fun e w' => e = .returned (.bool true) ∧ Below w.heap.size w w' := by
  have e2 : Try.prog.bytesOf 39 = 16 := by kernel_rfl
  have e4 : reachBytes = 140737488351232 := by decide +kernel
  rw [e2, e4] at hl1
  refine clone_walk A1 l c1 x1 x2 w ?_ hr1 (by omega)
  have m0 : IntKind.i64.min = -9223372036854775808 := by decide +kernel
  have m1 : IntKind.i64.max = 9223372036854775807 := by decide +kernel
  simp [Lit.wf, m0, m1] at hx
  exact hx.2
end Go.Proofs.Ytmkojmjjlcfohaa.Rg
