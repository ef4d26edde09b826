/- DatagramsPlay: the law's walk; no condition but the reach of its arguments. -/
import Derived.Test.YtpilpgdlgkndmaaDgSt
set_option linter.unusedVariables false
set_option linter.unusedSimpArgs false
namespace Go.Proofs.Ytpilpgdlgkndmaa.Dg
open Go.RowKit Go.Proofs.YtpilpgdlgkndmaaW.PrintWords Go.Proofs.YtpilpgdlgkndmaaW.PrintLast Go.Proofs.YtpilpgdlgkndmaaW.PrintMore Go.Proofs.Ytpilpgdlgkndmaa.Rw
set_option maxRecDepth 100000 in
set_option maxHeartbeats 3200000 in
theorem play_good (most room : Int) (A1 : Option Addr) (acts : List ActD) (c1 : Nat) (w : World) (h0 : 0 ≤ most) (h1 : most ≤ 65535) (h2 : 0 ≤ room) (h3 : room ≤ 64)
    (hr1 : Kd.C actK w A1 acts.length acts) (hl1 : acts.length ≤ 140737488351232) (hl : ∀ a ∈ acts, a.2.1.length ≤ 140737488351232) :
    Calls Try.prog 9 #[.int .i64 most, .int .i64 room, .slice A1 acts.length c1] w fun e w' => e = .returned (.bool true) ∧ Below w.heap.size w w' := by
  have HR1 := Aside0.mk hr1
  have HL := Aside0.mk hl
  have hn1 : (acts.length : Int) ≤ 140737488351232 := by omega
  clear hr1 hl hl1
  go_enter Try.func9, Try.ntmps9
  go_wp2_with (first
    | (go_at_call 11; refine (new_good _ _ _ h0 h1 h2 h3).mono ?_; rintro e w1 ⟨rfl, rfl⟩)
    | (go_at_call 26; refine (rnew_good _ _ _ h0 h1 h2 h3).mono ?_; rintro e w1 ⟨rfl, rfl⟩)
    | (go_at_call 27; refine (names22 _).mono ?_; rintro e w1 ⟨rfl, rfl⟩))
  go_loopw [11] (fun i W => PRel w most room acts.length i W) (fun i _ => acts.length - (intOf i).toNat)
  case atStart => exact ⟨0, none, 0, [], none, 0, by omega, rfl, (by repeat (first | exact Below.refl _ _ | apply below_alloc)), (new_que most room w h2 h3).below (below_alloc (Below.refl _ _) _), by have := rnew_que most room (w.alloc (.cells #[.bool true, .int .i64 most, .int .i64 room, .slice none 0 0] 54)) h2 h3 w.heap.size (by simp); simpa using this⟩
  case round =>
    obtain ⟨k, A, c, its, A2, c2, hk, rfl, hb, hq, hrq⟩ := hrel
    have HB := Aside0.mk hb
    have HQ := Aside0.mk hq
    have HRQ := Aside0.mk hrq
    clear hb hq hrq
    by_cases hlt : k < acts.length
    · obtain ⟨x, hx⟩ : ∃ x, acts[k]? = some x := ⟨_, List.getElem?_eq_getElem hlt⟩
      obtain ⟨ad, Ak, ck, hA1, g0, g1, g2, hckl, hCk⟩ := came_act HR1.out hx
      subst hA1
      have HLl := Aside0.mk (HL.out x (List.mem_of_getElem? hx))
      obtain ⟨kd, bl, N⟩ := x
      simp only at g0 g1 g2 hckl hCk HLl
      rw [add_field _ _ _ (by decide)] at g1 g2
      have e0 := pw_cell_below HB.out g0
      have e1 := pw_cell_below HB.out g1
      have e2 := pw_cell_below HB.out g2
      have hk1 : (k : Int) < (acts.length : Int) := by omega
      have HCk := Aside0.mk (And.intro hckl hCk)
      clear g0 g1 g2 hckl hCk hx
      go_upto_block 2 with (first
        | ((with_reducible refine gate_dst (N := 68) rfl ?_); refine Kd.R_lit (Kd.int .u8) _ 5 ?hg (N := 68) ?hd (xs := ([] : List Int)) (inner := []) (ok := fun _ => True) (okp := fun _ => True) ?hr ?hp (fun _ hk => hk) trivial (Below.refl _ _) (Nat.le_refl _) (by simp) ?_; (case hd => rfl); (case hg => rfl); (case hr => first | (go_simp; done) | (go_simp; rfl)); (case hp => exact (Reps.none _ _)); intro v1 w1 ho hb _ _; have H1 := Aside0.mk ho; have HB1 := Aside0.mk hb; have a1 : w1.cell? ⟨wr.heap.size, 1, none⟩ = some (.slice Ak bl.length ck) := (by rw [cell_of_row w1 _ _ _ _ _ ((hb.block wr.heap.size (by simp)).trans (heap_alloc_new wr _))]; rfl); clear ho hb)
        | ((with_reducible refine gate_builtin (b := .append) (xs := #[.tmp 68, .tmp 70]) rfl ?_); at_builtin; refine Kd.R_append_rows (Kd.int .u8) (w0 := (wr.alloc (.cells #[.int .i64 kd, .slice Ak bl.length ck, .int .i64 N] 50))) (wr.alloc (.cells #[.int .i64 kd, .slice Ak bl.length ck, .int .i64 N] 50)).heap.size rfl (.tmp 68) (.tmp 70) 22 5 (.int .u8 0) 1 rfl Try.underlying22 Clone.info5 rfl (by decide) (by omega) v1 [] bl Ak bl.length ck (fun _ => True) (fun _ => False) rfl rfl H1.out (Kd.C_below HCk.out.2 (HB.out.trans ((below_step (below_alloc (Below.refl _ wr) _) HB1.out).mono HB.out.size))) (fun _ _ h => h) (fun _ h => h.elim) (fun _ _ => trivial) HB1.out HB1.out.size (by have := HLl.out; simp; omega) ?_; intro v3 w3 ho hb _ _; obtain ⟨Ai, ci, ei⟩ := Kd.R_slice (show Kd.R (Kd.int .u8) 5 w3 (wr.alloc (.cells #[.int .i64 kd, .slice Ak bl.length ck, .int .i64 N] 50)).heap.size (fun _ => True) v3 bl from ho); subst ei; have HS := Aside0.mk (st_start HB.out HQ.out HRQ.out hb ho); have a0 := HS.out.a0; have a1 := HS.out.a1; have a2 := HS.out.a2; clear ho hb H1 HB1 e0 e1 e2 HQ HRQ))
      go_cut [14, 15, 16, 17, 18, 19, 20, 21, 22, 23, 24] from 54 to 195 (fun _ _ _ _ _ _ _ _ _ _ _ wc => CutR w most room wr.heap.size kd Ak bl ck N Ai ci wc)
      case first =>
        by_cases k0 : kd = 0
        · subst k0
          by_cases hbad : (bl.length : Int) > most ∨ (its.length : Int) ≥ room
          · have HBD := Aside0.mk hbad
            have HBD2 := Aside0.mk (show (bl.length : Int) > most ∨ ((its.map (·.2)).length : Int) ≥ room by rw [List.length_map]; exact hbad)
            obtain ⟨cd, hcd⟩ : ∃ cd : Int, cd = if (bl.length : Int) > most then 3 else 35 := ⟨_, rfl⟩
            have HCD := Aside0.mk hcd
            clear hcd
            clear hbad
            go_wp2_with fail
            go_region_law (first
              | (go_simp; go_at_call 12; (first | refine (st_put_bad HS.out _ HBD.out).mono ?_ | refine (st_put_bad HS.out 1 HBD.out).mono ?_ | refine (st_put_bad HS.out 0 HBD.out).mono ?_); rintro e W1 ⟨he, hs⟩; rw [← HCD.out] at he; subst he; have n0 := Aside0.mk hs; clear HS a0 a1 a2; have HS := n0; clear n0; have a0 := HS.out.a0; have a1 := HS.out.a1; have a2 := HS.out.a2)
              | (go_simp; go_at_call 28; (first | refine (st_rput_bad HS.out _ HBD2.out).mono ?_ | refine (st_rput_bad HS.out 1 HBD2.out).mono ?_ | refine (st_rput_bad HS.out 0 HBD2.out).mono ?_); rintro e W1 ⟨he, hs⟩; rw [← HCD.out] at he; subst he; have n0 := Aside0.mk hs; clear HS a0 a1 a2; have HS := n0; clear n0; have a0 := HS.out.a0; have a1 := HS.out.a1; have a2 := HS.out.a2))
            all_goals
              go_wp2_with fail
              go_meet
              case rel => exact ⟨_, _, _, _, _, HS.out⟩
          · have HM := Aside0.mk (show (bl.length : Int) ≤ most by omega)
            have HF := Aside0.mk (show (its.length : Int) < room by omega)
            have HF2 := Aside0.mk (show ((its.map (·.2)).length : Int) < room by rw [List.length_map]; exact HF.out)
            clear hbad
            go_wp2_with fail
            go_region_law (first
              | (go_simp; go_at_call 12; (first | refine (st_put_good HS.out _ (by have := HLl.out; omega) (by have := HM.out; omega) (by have := HF.out; omega)).mono ?_ | refine (st_put_good HS.out 1 (by have := HLl.out; omega) (by have := HM.out; omega) (by have := HF.out; omega)).mono ?_ | refine (st_put_good HS.out 0 (by have := HLl.out; omega) (by have := HM.out; omega) (by have := HF.out; omega)).mono ?_); rintro e W1 ⟨rfl, A', c', v', hs⟩; have n0 := Aside0.mk hs; clear HS a0 a1 a2; have HS := n0; clear n0; have a0 := HS.out.a0; have a1 := HS.out.a1; have a2 := HS.out.a2)
              | (go_simp; go_at_call 28; (first | refine (st_rput_good HS.out _ HCk.out.2 (by have := HM.out; omega) (by have := HF2.out; omega)).mono ?_ | refine (st_rput_good HS.out 1 HCk.out.2 (by have := HM.out; omega) (by have := HF2.out; omega)).mono ?_ | refine (st_rput_good HS.out 0 HCk.out.2 (by have := HM.out; omega) (by have := HF2.out; omega)).mono ?_); rintro e W1 ⟨rfl, A2', c2', hs⟩; have n0 := Aside0.mk hs; clear HS a0 a1 a2; have HS := n0; clear n0; have a0 := HS.out.a0; have a1 := HS.out.a1; have a2 := HS.out.a2))
            all_goals
              go_wp2_with fail
              go_meet
              case rel => exact cut_snoc HS.out
        by_cases k1 : kd = 1
        · subst k1
          by_cases hbad : (bl.length : Int) > most ∨ room = 0
          · have HBD := Aside0.mk hbad
            obtain ⟨cd, hcd⟩ : ∃ cd : Int, cd = if (bl.length : Int) > most then 3 else 35 := ⟨_, rfl⟩
            have HCD := Aside0.mk hcd
            clear hcd
            have hcn := fun W => conv_nil W
            clear hbad
            go_wp2_with (first
              | (go_at_call 20; (first | refine (st_push_bad HS.out _ HBD.out).mono ?_ | refine (st_push_bad HS.out 1 HBD.out).mono ?_ | refine (st_push_bad HS.out 0 HBD.out).mono ?_); rintro e W1 ⟨he, hs⟩; rw [← HCD.out] at he; subst he; have n0 := Aside0.mk hs; clear HS a0 a1 a2; have HS := n0; clear n0; have a0 := HS.out.a0; have a1 := HS.out.a1; have a2 := HS.out.a2)
              | (go_at_call 29; (first | refine (st_rpush_bad HS.out _ HBD.out).mono ?_ | refine (st_rpush_bad HS.out 1 HBD.out).mono ?_ | refine (st_rpush_bad HS.out 0 HBD.out).mono ?_); rintro e W1 ⟨he, hs⟩; rw [← HCD.out] at he; subst he; have n0 := Aside0.mk hs; clear HS a0 a1 a2; have HS := n0; clear n0; have a0 := HS.out.a0; have a1 := HS.out.a1; have a2 := HS.out.a2))
            go_meet
            case rel => exact ⟨_, _, _, _, _, HS.out⟩
          · have HM := Aside0.mk (show (bl.length : Int) ≤ most by omega)
            have HR0 := Aside0.mk (show 0 < room by omega)
            clear hbad
            by_cases hfull : (its.length : Int) ≥ room
            · cases its with
              | nil => exact absurd hfull (by have := HR0.out; simp; omega)
              | cons it rest =>
              obtain ⟨Av, cv, ev⟩ := Kd.R_slice (HS.out.q.own it List.mem_cons_self)
              obtain ⟨v, li⟩ := it
              simp only at ev
              subst ev
              have HF := Aside0.mk (show ((rest.length + 1 : Nat) : Int) ≥ room by simpa using hfull)
              have HF2 := Aside0.mk (show (((rest.map (·.2)).length + 1 : Nat) : Int) ≥ room by rw [List.length_map]; exact HF.out)
              have HSm := Aside0.mk (show St w w3 most room wr.heap.size 1 Ak bl ck N Ai ci A c ((.slice Av li.length cv, li) :: rest) A2 c2 (li :: rest.map (·.2)) from HS.out)
              clear hfull HS
              have HS := HSm
              clear HSm
              go_wp2_with fail
              refine (st_push_full HS.out 0 (by have := HLl.out; omega) (by have := HM.out; omega) (by have := HF.out; omega)).mono ?_
              rintro e W1 ⟨rfl, A', c', v', hs, hp⟩
              have HP := Aside0.mk hp
              clear hp
              have n0 := Aside0.mk hs
              clear HS a0 a1 a2
              have HS := n0
              clear n0
              have a0 := HS.out.a0
              have a1 := HS.out.a1
              have a2 := HS.out.a2
              go_wp2_with fail
              refine (st_rpush_full HS.out 0 HCk.out.2 (by have := HM.out; omega) (by have := HF2.out; omega) HR0.out).mono ?_
              rintro e W2 ⟨rfl, ⟨A2', c2', hs⟩, hp2⟩
              have n1 := Aside0.mk (hp2 _ _ HP.out)
              clear HP hp2
              have HP := n1
              clear n1
              have n0 := Aside0.mk hs
              clear HS a0 a1 a2
              have HS := n0
              clear n0
              have a0 := HS.out.a0
              have a1 := HS.out.a1
              have a2 := HS.out.a2
              have hcv := str_of HP.out
              go_wp2_with fail
              go_meet
              case rel => exact cut_snoc HS.out
            · have HF := Aside0.mk (show (its.length : Int) < room by omega)
              have HF2 := Aside0.mk (show ((its.map (·.2)).length : Int) < room by rw [List.length_map]; exact HF.out)
              have hcn := fun W => conv_nil W
              clear hfull
              go_wp2_with (first
                | (go_at_call 20; (first | refine (st_push_room HS.out _ (by have := HLl.out; omega) (by have := HM.out; omega) (by have := HF.out; omega)).mono ?_ | refine (st_push_room HS.out 1 (by have := HLl.out; omega) (by have := HM.out; omega) (by have := HF.out; omega)).mono ?_ | refine (st_push_room HS.out 0 (by have := HLl.out; omega) (by have := HM.out; omega) (by have := HF.out; omega)).mono ?_); rintro e W1 ⟨rfl, A', c', v', hs⟩; have n0 := Aside0.mk hs; clear HS a0 a1 a2; have HS := n0; clear n0; have a0 := HS.out.a0; have a1 := HS.out.a1; have a2 := HS.out.a2)
                | (go_at_call 29; (first | refine (st_rpush_room HS.out _ HCk.out.2 (by have := HM.out; omega) (by have := HF2.out; omega)).mono ?_ | refine (st_rpush_room HS.out 1 HCk.out.2 (by have := HM.out; omega) (by have := HF2.out; omega)).mono ?_ | refine (st_rpush_room HS.out 0 HCk.out.2 (by have := HM.out; omega) (by have := HF2.out; omega)).mono ?_); rintro e W1 ⟨rfl, A2', c2', hs⟩; have n0 := Aside0.mk hs; clear HS a0 a1 a2; have HS := n0; clear n0; have a0 := HS.out.a0; have a1 := HS.out.a1; have a2 := HS.out.a2))
              go_meet
              case rel => exact cut_snoc HS.out
        by_cases k2 : kd = 2
        · subst k2
          have hcn := fun W => conv_nil W
          cases its with
          | nil =>
            have HSm := Aside0.mk (show St w w3 most room wr.heap.size 2 Ak bl ck N Ai ci A c [] A2 c2 [] from HS.out)
            clear HS
            have HS := HSm
            clear HSm
            go_wp2_with fail
            refine (st_next_none HS.out 0 N).mono ?_
            rintro e W1 ⟨rfl, hs⟩
            have n0 := Aside0.mk hs
            clear HS a0 a1 a2
            have HS := n0
            clear n0
            have a0 := HS.out.a0
            have a1 := HS.out.a1
            have a2 := HS.out.a2
            go_wp2_with fail
            refine (st_rnext_none HS.out 0 N).mono ?_
            rintro e W1 ⟨rfl, hs⟩
            have n0 := Aside0.mk hs
            clear HS a0 a1 a2
            have HS := n0
            clear n0
            have a0 := HS.out.a0
            have a1 := HS.out.a1
            have a2 := HS.out.a2
            go_wp2_with fail
            refine wp_loop_rounds 1 ?_
            rw [rounds_succ]
            go_wp2_with fail
            go_meet
            case rel => exact ⟨_, _, _, _, _, HS.out⟩
          | cons it rest =>
            obtain ⟨Av, cv, ev⟩ := Kd.R_slice (HS.out.q.own it List.mem_cons_self)
            obtain ⟨v, li⟩ := it
            simp only at ev
            subst ev
            have HSm := Aside0.mk (show St w w3 most room wr.heap.size 2 Ak bl ck N Ai ci A c ((.slice Av li.length cv, li) :: rest) A2 c2 (li :: rest.map (·.2)) from HS.out)
            clear HS
            have HS := HSm
            clear HSm
            by_cases hlong : N < li.length
            · have HLong := Aside0.mk hlong
              clear hlong
              go_wp2_with fail
              refine (st_next_long HS.out 0 N HLong.out).mono ?_
              rintro e W1 ⟨rfl, hs⟩
              have n0 := Aside0.mk hs
              clear HS a0 a1 a2
              have HS := n0
              clear n0
              have a0 := HS.out.a0
              have a1 := HS.out.a1
              have a2 := HS.out.a2
              go_wp2_with fail
              refine (st_rnext_long HS.out 0 N HLong.out).mono ?_
              rintro e W1 ⟨rfl, hs⟩
              have n0 := Aside0.mk hs
              clear HS a0 a1 a2
              have HS := n0
              clear n0
              have a0 := HS.out.a0
              have a1 := HS.out.a1
              have a2 := HS.out.a2
              go_wp2_with fail
              refine wp_loop_rounds 1 ?_
              rw [rounds_succ]
              go_wp2_with fail
              go_meet
              case rel => exact ⟨_, _, _, _, _, HS.out⟩
            · have HLong := Aside0.mk (show (li.length : Int) ≤ N by omega)
              have hlb : (li.length : Int) ≤ 9223372036854775807 := by have h : li.length ≤ 9223372036854775807 := (Kd.R_reads' (HS.out.q.own (.slice Av li.length cv, li) List.mem_cons_self)).2.2.2.1; omega
              clear hlong
              go_wp2_with fail
              refine (st_next_pop HS.out 0 N HLong.out).mono ?_
              rintro e W1 ⟨rfl, A', c', hs, hp, hoff, hap⟩
              have HP := Aside0.mk hp
              have HOf := Aside0.mk (And.intro hoff hap)
              clear hp hoff hap
              have n0 := Aside0.mk hs
              clear HS a0 a1 a2
              have HS := n0
              clear n0
              have a0 := HS.out.a0
              have a1 := HS.out.a1
              have a2 := HS.out.a2
              go_wp2_with fail
              refine (st_rnext_pop HS.out 0 N HLong.out).mono ?_
              rintro e W2 ⟨rfl, ⟨A2', c2', hs⟩, hp2⟩
              have n1 := Aside0.mk (hp2 _ _ HP.out)
              clear HP hp2
              have HP := n1
              clear n1
              have n0 := Aside0.mk hs
              clear HS a0 a1 a2
              have HS := n0
              clear n0
              have a0 := HS.out.a0
              have a1 := HS.out.a1
              have a2 := HS.out.a2
              have hcv := str_of HP.out
              go_wp2_with fail
              clear hcv
              go_loopw [24] (fun i W' => ∃ j : Nat, j ≤ li.length ∧ i = .int .i64 j ∧ Bump w W2 W' (.slice Av li.length cv) li.length) (fun i _ => li.length - (intOf i).toNat)
              case atStart => exact ⟨0, by omega, rfl, li, rfl, HP.out, Kept.refl _ _, Below.refl _ _⟩
              case round =>
                obtain ⟨j, hj, rfl, hbm⟩ := hrel
                have HBm := Aside0.mk hbm
                clear hbm a0 a1 a2
                by_cases hjn : j < li.length
                · obtain ⟨gx, hgx, hgb⟩ := R_head0 HP.out (by omega)
                  subst hgx
                  obtain ⟨x, hx, fx⟩ := HBm.out.cell j hjn
                  have hj1 : (j : Int) < (li.length : Int) := by omega
                  go_wp2_with fail
                  go_roundw
                  case rel => exact ⟨j + 1, by omega, by go_num, HBm.out.step hgb j _⟩
                  case measure => simp [intOf]; omega
                · have hjd : decide ((j : Int) < (li.length : Int)) = false := decide_eq_false (by omega)
                  go_wp2_with fail
                  go_meet
                  case rel =>
                    obtain ⟨l', _, _, hk', hb'⟩ := HBm.out
                    exact ⟨_, _, _, _, _, HS.out.keptB HP.out HOf.out.1 HOf.out.2 hb' hk'⟩
        · skip
          have b0 : (kd == 0) = false := beq_eq_false_iff_ne.mpr k0
          have b1 : (kd == 1) = false := beq_eq_false_iff_ne.mpr k1
          have b2 : (kd == 2) = false := beq_eq_false_iff_ne.mpr k2
          clear k0 k1 k2
          go_wp2_with fail
          go_meet
          case rel => exact ⟨_, _, _, _, _, HS.out⟩
      case rest =>
        obtain ⟨A, c, its, A2, c2, hs⟩ := hcut
        have HS0 := Aside0.mk hs
        clear hs HS a0 a1 a2
        have hbn : (bl.length : Int) ≤ 140737488351232 := by have := HLl.out; omega
        go_wp2_with fail
        go_loopw [25] (fun i W' => ∃ j : Nat, j ≤ bl.length ∧ i = .int .i64 j ∧ Bump3 w wc W' (.slice Ai bl.length ci) bl j) (fun i _ => bl.length - (intOf i).toNat)
        case atStart => exact ⟨0, by omega, rfl, bl, rfl, fun i _ => rfl, HS0.out.inn, Kept.refl _ _, Below.refl _ _⟩
        case round =>
          rename_i wr0 _
          obtain ⟨j, hj, rfl, hbm⟩ := hrel
          have HBm := Aside0.mk hbm
          clear hbm
          by_cases hjn : j < bl.length
          · obtain ⟨y, hy⟩ : ∃ y, bl[j]? = some y := ⟨_, List.getElem?_eq_getElem hjn⟩
            obtain ⟨gi, hgi, hgb⟩ := R_head0 HS0.out.inn (by omega)
            subst hgi
            obtain ⟨adk, hAk, hcy⟩ := came_int HCk.out.2 hy
            subst hAk
            obtain ⟨hin, fin⟩ := HBm.out.cell rfl hy
            have hcy' := pw_cell_below (HS0.out.hb.trans (by obtain ⟨_, _, _, _, _, hb⟩ := HBm.out; exact hb)) hcy
            have b1 := HBm.out.act HS0.out
            have hj1 : (j : Int) < (bl.length : Int) := by omega
            have hj0 : (0 : Int) ≤ (j : Int) := by omega
            clear hy hcy
            go_wp2_with fail
            go_quiet (fail)
            go_wp2_with fail
            go_roundw
            case rel => exact ⟨j + 1, by omega, by go_num, (HBm.out.drewN _).step hgb _⟩
            case measure => simp [intOf]; omega
          · have hjd : decide ((j : Int) < (bl.length : Int)) = false := decide_eq_false (by omega)
            obtain ⟨hq5, hr5, hb5⟩ := HBm.out.queues HS0.out
            have HQ5 := Aside0.mk hq5
            have HR5 := Aside0.mk hr5
            have HB5 := Aside0.mk hb5
            have c5 := hr5.c2
            have hfl : ((its.map (·.2)).map (·.length)).headD 0 = (its.map (·.2.length)).headD 0 := by rw [List.map_map]; rfl
            have HFL := Aside0.mk hfl
            rw [List.length_map] at c5
            clear hq5 hr5 hb5 hfl
            go_wp2_with fail
            refine (told_q HQ5.out).mono ?_
            rintro e W5 ⟨rfl, ⟨n5, rfl⟩⟩
            go_wp2_with fail
            refine (rfirst_q (HR5.out.drewN _)).mono ?_
            rw [HFL.out]
            rintro e W6 ⟨rfl, rfl⟩
            go_wp2_with fail
            go_roundw
            case rel => exact ⟨k + 1, A, c, its, A2, c2, by omega, by go_num, pw_below_drewN HB5.out _, HQ5.out.drewN _, HR5.out.drewN _⟩
            case measure => simp [intOf]; omega
    · have hkd : decide ((k : Int) < (acts.length : Int)) = false := decide_eq_false (by omega)
      go_wp2_with fail
      go_ret
      exact ⟨rfl, HB.out⟩
set_option maxRecDepth 100000 in
theorem play_bad (most room : Int) (A1 : Option Addr) (acts : List ActD) (c1 : Nat) (w : World) (h : most < 0 ∨ most > 65535 ∨ room < 0 ∨ room > 64) :
    Calls Try.prog 9 #[.int .i64 most, .int .i64 room, .slice A1 acts.length c1] w fun e w' => e = .returned (.bool true) ∧ Below w.heap.size w w' := by
  have H := Aside0.mk h
  clear h
  by_cases h0 : 0 < acts.length
  · have h1 : (0 : Int) < (acts.length : Int) := by omega
    clear h0
    go_enter Try.func9, Try.ntmps9
    go_wp2_with (first
      | (go_at_call 11; refine (new_bad _ _ _ H.out).mono ?_; rintro e w1 ⟨rfl, rfl⟩)
      | (go_at_call 26; refine (rnew_bad _ _ _ H.out).mono ?_; rintro e w1 ⟨rfl, rfl⟩)
      | (go_at_call 27; refine (names22 _).mono ?_; rintro e w1 ⟨rfl, rfl⟩))
    refine wp_loop_rounds 1 ?_
    rw [rounds_succ]
    go_wp2_with fail
    go_ret
    exact ⟨rfl, Below.refl _ _⟩
  · obtain rfl := List.eq_nil_of_length_eq_zero (show acts.length = 0 by omega)
    clear h0
    show Calls _ _ #[.int .i64 most, .int .i64 room, .slice A1 0 c1] _ _
    go_enter Try.func9, Try.ntmps9
    go_wp2_with (first
      | (go_at_call 11; refine (new_bad _ _ _ H.out).mono ?_; rintro e w1 ⟨rfl, rfl⟩)
      | (go_at_call 26; refine (rnew_bad _ _ _ H.out).mono ?_; rintro e w1 ⟨rfl, rfl⟩)
      | (go_at_call 27; refine (names22 _).mono ?_; rintro e w1 ⟨rfl, rfl⟩))
    refine wp_loop_rounds 1 ?_
    rw [rounds_succ]
    go_wp2_with fail
    go_ret
    exact ⟨rfl, Below.refl _ _⟩
/-- In the row's form. -/
theorem play_row (a0 a1 : Int) (A1 : Option Addr) (acts : List ActD) (c1 : Nat) (w : World) (hr1 : Kd.C actK w A1 acts.length acts)
    (ok1 : ∀ x ∈ acts, (Lit.int .i64 x.1).wf = true ∧ ((∀ y ∈ x.2.1, (Lit.int .u8 y).wf = true) ∧ x.2.1.length * Try.prog.bytesOf 5 ≤ reachBytes) ∧ (Lit.int .i64 x.2.2).wf = true) (hl1 : acts.length * Try.prog.bytesOf 50 ≤ reachBytes) :
    Calls Try.prog 9 #[.int .i64 a0, .int .i64 a1, .slice A1 acts.length c1] w fun e w' => e = .returned (.bool true) ∧ Below w.heap.size w w' := by
  have e1 : Try.prog.bytesOf 5 = 1 := by kernel_rfl
  have e2 : Try.prog.bytesOf 50 = 40 := by kernel_rfl
  have e4 : reachBytes = 140737488351232 := by decide +kernel
  rw [e2, e4] at hl1
  by_cases h : 0 ≤ a0 ∧ a0 ≤ 65535 ∧ 0 ≤ a1 ∧ a1 ≤ 64
  · refine play_good a0 a1 A1 acts c1 w h.1 h.2.1 h.2.2.1 h.2.2.2 hr1 (by omega) (fun x hx => ?_)
    have := (ok1 x hx).2.1.2
    rw [e1, e4] at this
    omega
  · exact play_bad a0 a1 A1 acts c1 w (by omega)
end Go.Proofs.Ytpilpgdlgkndmaa.Dg
