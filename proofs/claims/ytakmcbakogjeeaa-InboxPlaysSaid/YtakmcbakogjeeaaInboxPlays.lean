/- InboxPlays: the law's walk; no condition but the reach of its arguments. -/
import Derived.Test.YtakmcbakogjeeaaIbPl4
import Derived.Lib.QuietBelow
import Derived.BigQuiet
set_option linter.unusedVariables false
set_option linter.unusedSimpArgs false
namespace Go.Proofs.Ytakmcbakogjeeaa.Ib
open Go Go.RowKit Go.Maps Go.Proofs.Ytakmcbakogjeeaa.Rm Go.Proofs.Ytakmcbakogjeeaa.Rw
open Go.Proofs.YtakmcbakogjeeaaW.PrintWords Go.Proofs.YtakmcbakogjeeaaW.PrintLast Go.Proofs.YtakmcbakogjeeaaW.PrintMore
set_option maxRecDepth 100000 in
set_option maxHeartbeats 12800000 in
theorem play_good (room : Int) (hr0 : 0 ≤ room) (hr1 : room ≤ 1048576) (A1 : Option Addr) (acts : List ActI) (c1 : Nat) (w : World) (hl1 : acts.length ≤ 140737488351232) (hr : Kd.C actK w A1 acts.length acts)
    (hlo : ∀ x ∈ acts, (-9223372036854775808 ≤ x.2.1 ∧ x.2.1 ≤ 9223372036854775807) ∧ x.2.2.1.length ≤ 140737488351232 ∧ (∀ y ∈ x.2.2.1, 0 ≤ y ∧ y ≤ 255) ∧ -9223372036854775808 ≤ x.2.2.2.2 ∧ x.2.2.2.2 ≤ 9223372036854775807) :
    Calls Try.prog 6 #[.int .i64 room, .slice A1 acts.length c1] w fun e w' => e = .returned (.bool true) ∧ Below w.heap.size w w' := by
  have HR := Aside0.mk hr
  have HLO := Aside0.mk hlo
  clear hr hlo
  go_enter Try.func6, Try.ntmps6
  go_wp2_with (first
    | (go_at_call 15; (with_reducible refine (new_s w room hr0 hr1).mono ?_); rintro e w1 ⟨g, rfl, hx, hb⟩; have X1 := Aside0.mk hx; have HB1 := Aside0.mk hb; clear hx hb)
    | (go_at_call 25; (with_reducible refine (rnew_s room w1 hr0 hr1).mono ?_); rintro e w2 ⟨r, rfl, hx, hb⟩; have X2 := Aside0.mk hx; have HB2 := Aside0.mk hb; clear hx hb)
    | (go_at_call 26; (with_reducible refine (names_s _).mono ?_); rintro e w3 ⟨rfl, rfl⟩))
  have H0 : Aside0 (PlO w g w.heap.size r ⟨room, 0, room, 0, 0, false⟩ [] w2) := ⟨⟨HB1.out.trans (HB2.out.mono HB1.out.size), ⟨[], X1.out.below HB2.out, trivial⟩, ⟨none, 0, X2.out.move rfl (fun k hk => rfl) |> fun y => ⟨by have := y.hg; have := HB1.out.size; omega, y.blk, wr_lower y.row HB1.out.size⟩⟩⟩⟩
  obtain ⟨m, hm⟩ : ∃ m, w.heap.size = m := ⟨_, rfl⟩
  have H1 : Aside0 (PlO w g m r ⟨room, 0, room, 0, 0, false⟩ [] w2) := ⟨by rw [← hm]; exact H0.out⟩
  clear H0 X1 X2 HB1 HB2 hm
  go_loopw [9] (fun iv W => PlRel w g m r acts.length iv W) (fun iv _ => acts.length - (intOf iv).toNat)
  case atStart => exact ⟨0, _, _, Nat.zero_le _, rfl, H1.out, PlIn.new room hr0 hr1⟩
  case round =>
    clear H1
    obtain ⟨k, h, P, hk, rfl, hs, hin⟩ := hrel
    have HS := Aside0.mk hs
    have HI := Aside0.mk hin
    clear hs hin
    by_cases hlt : k < acts.length
    · obtain ⟨x, hx⟩ : ∃ x, acts[k]? = some x := ⟨_, List.getElem?_eq_getElem hlt⟩
      obtain ⟨ad, Ak, ck, hA1, g0, g1, g2, g3, g4, hckl, hCk⟩ := came_act HR.out hx
      subst hA1
      have HL := Aside0.mk (HLO.out x (List.mem_of_getElem? hx))
      obtain ⟨kd, off, data, fin, N⟩ := x
      simp only at g0 g1 g2 g3 g4 hckl hCk HL
      rw [add_field _ _ _ (by decide)] at g1 g2 g3 g4
      have e0 := pw_cell_below HS.out.bel g0
      have e1 := pw_cell_below HS.out.bel g1
      have e2 := pw_cell_below HS.out.bel g2
      have e3 := pw_cell_below HS.out.bel g3
      have e4 := pw_cell_below HS.out.bel g4
      have HCk := Aside0.mk (And.intro hckl hCk)
      clear g0 g1 g2 g3 g4 hckl hCk hx
      go_upto_region 9 with fail
      obtain ⟨cs, hcs⟩ : ∃ cs : Array Value, cs = #[.int .i64 kd, .int .i64 off, .slice Ak data.length ck, .bool fin, .int .i64 N] := ⟨_, rfl⟩
      have hs1 := HS.out.act #[.int .i64 kd, .int .i64 off, .slice Ak data.length ck, .bool fin, .int .i64 N]
      obtain ⟨ab, hab⟩ : ∃ ab, wr.heap.size = ab := ⟨_, rfl⟩
      have hbw : w.heap.size ≤ ab := by rw [← hab]; exact HS.out.bel.size
      rw [hab] at hs1 ⊢
      obtain ⟨wa, hwa⟩ : ∃ wa, wr.alloc (.cells #[.int .i64 kd, .int .i64 off, .slice Ak data.length ck, .bool fin, .int .i64 N] 41) = wa := ⟨_, rfl⟩
      rw [hwa] at hs1 ⊢
      clear HS e0 e1 e2 e3 e4 hwa hab
      have HS := Aside0.mk hs1
      clear hs1
      obtain ⟨a0, a1, a2, a3, a4⟩ := HS.out.ac
      go_upto_block 2 with fail
      go_cut [11, 12, 13, 14, 15, 16, 17, 18] from 61 to 174 (fun _ _ _ _ _ _ _ _ wc => PlCut w g m r ab #[.int .i64 kd, .int .i64 off, .slice Ak data.length ck, .bool fin, .int .i64 N] wc)
      case first =>
        by_cases k0 : kd = 0
        · subst k0
          as_aux_lemma =>
            have hbwa := HS.out.bel.size
            have hdl := HL.out.2.1
            have HAL := Aside0.mk (HS.out.mono (D' := fun k => k < wa.heap.size) (fun k hk _ => hk))
            have HBa := Aside0.mk (below_alloc (Below.refl wa.heap.size wa) (.cells #[] 5))
            have R0 : Aside0 ((wa.alloc (.cells #[] 5)).ownsRow wa.heap.size 5 1 (.slice (some ⟨wa.heap.size, 0, none⟩) 0 0) 0 []) := ⟨⟨rfl, .inr ⟨wa.heap.size, 0, #[], rfl, Nat.le_refl _, heap_alloc_new wa _, Nat.le_refl _, Nat.zero_le _, by simp, rfl⟩⟩⟩
            have b0 := pw_cell_below HBa.out a0
            have b1 := pw_cell_below HBa.out a1
            have b2 := pw_cell_below HBa.out a2
            have b3 := pw_cell_below HBa.out a3
            have SRC : Aside0 (∀ W', Below wa.heap.size wa W' → 0 < data.length → ∃ a, Ak = some a ∧ a.block < w.heap.size ∧ ∀ i u, data[i]? = some u → W'.cell? (a.add i) = some (.int .u8 u)) := ⟨fun W' hb h0 => by
              obtain ⟨a, hA, hlt0, hc⟩ := came_bytes HCk.out.2 h0
              exact ⟨a, hA, hlt0, fun i u hu => (World.cell?_of_block ((HS.out.bel.trans (hb.mono hbwa)).block _ (by rw [add_blk]; exact hlt0))).trans (hc i u hu)⟩⟩
            go_upto_region 12 with (first
              | (at_builtin; refine wpList_app_u8 rfl _ _ rfl wa.heap.size (.slice (some ⟨wa.heap.size, 0, none⟩) 0 0) 0 [] rfl R0.out Ak data.length ck (data.map (Value.int .u8)) rfl (by simp) (fun h0 => by obtain ⟨a, hA, _, hc⟩ := SRC.out _ HBa.out h0; exact ⟨a, hA, src_u8 hc⟩) (fun u hu => one_u8 hu) (by omega) HBa.out.size ?_; intro v1 w1 h1 h2 _; have R1 := Aside0.mk h1; have HB1 := Aside0.mk (HBa.out.grown h2 HBa.out.size (fun k hk => (own_typed R0.out k hk).1)); clear h1 h2)
              | (at_builtin; refine wpList_app_u8 rfl _ _ rfl wa.heap.size v1 (0 + data.length) ([] ++ data.map (Value.int .u8)) rfl (R1.out.alloc _) (some ⟨w1.heap.size, 0, none⟩) 1 1 [.int .u8 90] rfl rfl (fun _ => ⟨_, rfl, cell_one_new _ _ _⟩) (fun u hu => by rw [List.mem_singleton.1 hu]; rfl) (by omega) (by have := HB1.out.size; simp; omega) ?_; intro v2 w2 h1 h2 _; have R2 : Aside0 (w2.ownsRow wa.heap.size 5 1 v2 (data ++ [90]).length ((data ++ [90]).map (Value.int .u8))) := ⟨by simpa using h1⟩; have HB2 := Aside0.mk ((HB1.out.alloc HB1.out.size _).grown h2 (by have := HB1.out.size; simp; omega) (fun k hk => (own_typed R1.out k hk).1)); clear h1 h2 a0 a1 a2 a3 a4 b0 b1 b2 b3))
            obtain ⟨gi, ci, hv2, hgi, hcin⟩ := own_pos R2.out (by simp)
            subst hv2
            obtain ⟨xs, hxs⟩ : ∃ xs, data ++ [90] = xs := ⟨_, rfl⟩
            have hxl : data.length + 1 ≤ xs.length ∧ xs.length ≤ data.length + 1 := by rw [← hxs]; simp
            rw [hxs] at R2 hcin ⊢
            have HXS := Aside0.mk hxs
            clear hxs
            clear R0 R1 HBa HB1
            have HS2 := Aside0.mk ((HAL.out.below HB2.out).1.mono (D' := fun k => k ≠ gi) (fun k _ hk => by omega))
            clear HAL HS
            obtain ⟨a0, a1, a2, a3, a4⟩ := HS2.out.ac
            obtain ⟨hof, hof2⟩ := HL.out.1
            obtain ⟨cd, hcd⟩ : ∃ cd, putV h off data.length fin = cd := ⟨_, rfl⟩
            have hlc : (0 : Int) ≤ (data.length : Int) ∧ (data.length : Int) ≤ (ci : Int) := by omega
            have hnl : xs.length ≤ 140737488355329 := by omega
            have CP : Aside0 (∀ W, PlS w g m r ab #[.int .i64 0, .int .i64 off, .slice Ak data.length ck, .bool fin, .int .i64 N] (fun k => k ≠ gi) h P h (flat P) W → W.ownsRow wa.heap.size 5 1 (.slice (some ⟨gi, 0, none⟩) xs.length ci) xs.length (xs.map (Value.int .u8)) →
                Calls Try.prog 19 #[.pointer (some ⟨g, 0, none⟩), .int .i64 off, .slice (some ⟨gi, 0, none⟩) data.length ci, .bool fin] W fun e w' => e = .returned (.int .i64 cd) ∧ PlS w g m r ab #[.int .i64 0, .int .i64 off, .slice Ak data.length ck, .bool fin, .int .i64 N] (fun k => k ≠ gi) (pH h off data.length fin) (pP h P off data fin) h (flat P) w' ∧ RowsStay W w') := ⟨fun W hs ho => by
              obtain ⟨hbg, cc, hcc⟩ := own_typed ho gi (by simp [Value.ownBlock])
              obtain ⟨t1, t2, _, _⟩ := hs.types.2.2.2.2.2 gi cc hcc
              have hlt := (Array.getElem?_eq_some_iff.1 hcc).1
              rw [← hcd]
              refine c_put hs HI.out off (some ⟨gi, 0, none⟩) data ci fin hof hof2 (by omega) (by omega) (fun h0 => ⟨_, rfl, t1, t2, hlt, fun j u hu => ?_⟩) (fun k hk => by omega)
              have h1 := (C_of_own ho rfl).2.2 (by omega)
              obtain ⟨ad1, hA1, hq⟩ := h1
              injection hA1 with hA1
              subst hA1
              obtain ⟨c3, _, hr3, hcell⟩ := hq j u (by rw [← HXS.out, List.getElem?_append_left (List.getElem?_eq_some_iff.1 hu).1]; exact hu)
              have e3 : c3 = [.int .u8 u] := hr3
              subst e3
              have h4 := hcell 0 _ rfl
              rwa [show j * (Kd.int .u8).sz + 0 = j from Nat.mul_one j] at h4⟩
            go_region_held3 (fun w' => w'.cell? ⟨ab, 1, none⟩ = some (.int .i64 off) ∧ w'.cell? ⟨ab, 2, none⟩ = some (.slice Ak data.length ck) ∧ w'.cell? ⟨ab, 3, none⟩ = some (.bool fin))
              (first | exact ⟨HS5.out.ac.2.1, HS5.out.ac.2.2.1, HS5.out.ac.2.2.2.1⟩ | exact ⟨a1, a2, a3⟩) (first
              | (go_at_call 19; (with_reducible refine (CP.out _ (HS2.out.below (Below.refl _ _).drew).1 ((HS2.out.below (Below.refl _ _).drew).2.ap R2.out)).mono ?_); rintro e w5 ⟨rfl, hs, hst⟩; have HS5 := Aside0.mk hs; have R5 := Aside0.mk (hst.ap ((HS2.out.below (Below.refl _ w2).drew).2.ap R2.out)); clear hs hst))
            clear CP a0 a1 a2 a3 a4 HS2 R2 HB2
            obtain ⟨a0, a1, a2, a3, a4⟩ := HS5.out.ac
            have CQ := Aside0.mk (c_rput HS5.out HI.out off Ak data ck fin hof hof2 (by omega) HCk.out.1 (fun h0 => by
              obtain ⟨a, hA, hlt0, hc⟩ := came_bytes HCk.out.2 h0
              exact ⟨a, hA, hlt0, fun i u hu => (World.cell?_of_block (HS5.out.bel.block _ (by rw [add_blk]; exact hlt0))).trans (hc i u hu)⟩))
            rw [hcd] at CQ
            have hsy := p_sync HI.out off data fin
            have s3 := str_z data
            rw [HXS.out] at s3
            have s4 : (strOfNums data).size + 1 ≤ 9223372036854775807 := by rw [str_size]; omega
            have HSY := Aside0.mk hsy
            clear hcd hsy SRC
            go_wp2_with (go_at_call 27; (with_reducible refine CQ.out.mono ?_); rintro e w6 ⟨rfl, hs, hst⟩; have HS6 := Aside0.mk hs; have R6 := Aside0.mk (hst.ap R5.out); have s1 := str_own (hst.ap R5.out) rfl; have s2 := Kd.C_string (P := Try.prog) (A := Ak) (c := ck) Try.underlying22 Try.underlying5 Try.underlying9 (Kd.C_below HCk.out.2 hs.bel); clear hs hst a0 a1 a2 a3 a4; obtain ⟨a0, a1, a2, a3, a4⟩ := HS6.out.ac)
            clear s1 s2 s3 s4 a0 a1 a2 a3 a4 CQ
            have HS7 : Aside0 (PlS w g m r ab #[.int .i64 0, .int .i64 off, .slice Ak data.length ck, .bool fin, .int .i64 N] (fun k => k ≠ gi) (pH h off data.length fin) (pP h P off data fin) (pH h off data.length fin) (flat (pP h P off data fin)) w6) := ⟨by rw [HSY.out.2]; exact HS6.out⟩
            clear HS6 HS5 R5
            go_loopw [13] (fun iv wr => MutR w g m r ab #[.int .i64 0, .int .i64 off, .slice Ak data.length ck, .bool fin, .int .i64 N] (fun k => k ≠ gi) (pH h off data.length fin) (pP h P off data fin) wa.heap.size (.slice (some ⟨gi, 0, none⟩) xs.length ci) xs.length iv wr) (fun iv _ => xs.length - (intOf iv).toNat)
            case atStart => exact mut_start HS7.out R6.out
            case round =>
              rename_i wr1 _
              obtain ⟨j, us, hj, rfl, hs, ho, hu⟩ := hrel
              have HM := Aside0.mk hs
              have HO := Aside0.mk ho
              have HU := Aside0.mk hu
              clear hs ho hu
              by_cases hjl : j < xs.length
              · obtain ⟨gx, cx2, z, hxv, hnc, hbg, ⟨cs2, hcs2⟩, hcell⟩ := mut_at HO.out HU.out hjl
                injection hxv with hx1 _ hx3
                injection hx1 with hx1
                injection hx1 with hx1
                subst hx1; subst hx3
                have hfz := blk_frozen hcs2 j
                have hj1 : (j : Int) < (xs.length : Int) := by omega
                go_wp2_with fail
                refine ⟨?_, by simp [intOf]; omega⟩
                rw [show (j : Int) + 1 = ((j + 1 : Nat) : Int) by push_cast; rfl]
                exact mut_step HM.out HO.out HU.out hjl (fun k hk => hk) hbwa
              · have hjl' : ¬ (j : Int) < (xs.length : Int) := by omega
                go_wp2_with fail
                go_meet
                case rel => exact ⟨(pH h off data.length fin), (pP h P off data fin), HM.out.mono (fun _ _ _ => trivial), HSY.out.1⟩
        by_cases k1 : kd = 1
        · subst k1
          as_aux_lemma =>
            obtain ⟨HN0, HN1⟩ := HL.out.2.2.2
            have CR := Aside0.mk (c_read2 HS.out HI.out N HN0 HN1)
            have hbwa := HS.out.bel.size
            go_upto_region 21 with (go_at_call 20; (with_reducible refine CR.out.mono ?_); rintro e w5 ⟨Ax, cx, out, dn, h', P', rfl, ho, hs, hrd⟩; have HX := Aside0.mk ho; have HS5 := Aside0.mk hs; have RD := Aside0.mk hrd; clear ho hs hrd a0 a1 a2 a3 a4; obtain ⟨a0, a1, a2, a3, a4⟩ := HS5.out.ac)
            clear CR HS
            have CQ := Aside0.mk (c_rread2 HS5.out HI.out RD.out)
            go_upto_region 22 with (go_at_call 28; (with_reducible refine CQ.out.mono ?_); rintro e w6 ⟨Aq, cq, rfl, ho, hs, hst⟩; have HX2 := Aside0.mk (hst _ _ _ _ HX.out); have HQ := Aside0.mk ho; have HS6 := Aside0.mk hs; clear ho hs hst a0 a1 a2 a3 a4)
            clear CQ HS5 HX
            have s1 := str_own HX2.out rfl
            have s2 := str_own HQ.out rfl
            have hol := RD.out.len HI.out
            go_wp2_with fail
            clear s1 s2
            go_loopw [18] (fun iv wr => MutR w g m r ab #[.int .i64 1, .int .i64 off, .slice Ak data.length ck, .bool fin, .int .i64 N] (fun k => True ∧ k < wa.heap.size) h' P' wa.heap.size (.slice Ax out.length cx) out.length iv wr) (fun iv _ => out.length - (intOf iv).toNat)
            case atStart => exact mut_start HS6.out HX2.out
            case round =>
              rename_i wr1 _
              obtain ⟨j, us, hj, rfl, hs, ho, hu⟩ := hrel
              have HM := Aside0.mk hs
              have HO := Aside0.mk ho
              have HU := Aside0.mk hu
              clear hs ho hu
              by_cases hjl : j < out.length
              · obtain ⟨gx, cx2, z, hxv, hnc, hbg, ⟨cs2, hcs2⟩, hcell⟩ := mut_at HO.out HU.out hjl
                injection hxv with hx1 _ hx3
                subst hx1; subst hx3
                have hfz := blk_frozen hcs2 j
                have hj1 : (j : Int) < (out.length : Int) := by omega
                go_wp2_with fail
                refine ⟨?_, by simp [intOf]; omega⟩
                rw [show (j : Int) + 1 = ((j + 1 : Nat) : Int) by push_cast; rfl]
                exact mut_step HM.out HO.out HU.out hjl (fun k hk => by have := hk.2; omega) hbwa
              · have hjl' : ¬ (j : Int) < (out.length : Int) := by omega
                go_wp2_with fail
                go_meet
                case rel => exact ⟨h', P', HM.out.mono (fun _ _ _ => trivial), RD.out.inn HI.out⟩
        by_cases k2 : kd = 2
        · subst k2
          as_aux_lemma =>
            go_upto_region 29 with fail
            go_region_held3 (fun w' => w'.cell? ⟨ab, 4, none⟩ = some (.int .i64 N)) (exact HS.out.ac.2.2.2.2) (first
              | (go_at_call 16; (with_reducible refine (c_end (by first | exact HS.out | exact (HS.out.below (Below.refl _ _).drew).1) N).mono ?_); rintro e w5 ⟨rfl, hs, _⟩; clear HS a0 a1 a2 a3 a4; have HS := Aside0.mk hs; clear hs; obtain ⟨a0, a1, a2, a3, a4⟩ := HS.out.ac)
              | (go_at_call 29; (with_reducible refine (c_rend (by first | exact HS.out | exact (HS.out.below (Below.refl _ _).drew).1) N).mono ?_); rintro e w5 ⟨rfl, hs, _⟩; clear HS a0 a1 a2 a3 a4; have HS := Aside0.mk hs; clear hs; obtain ⟨a0, a1, a2, a3, a4⟩ := HS.out.ac))
            all_goals
              go_wp2_with fail
              go_meet
              case rel => exact ⟨_, _, HS.out, HI.out.fin N⟩
        by_cases k3 : kd = 3
        · subst k3
          as_aux_lemma =>
            obtain ⟨HN0, HN1⟩ := HL.out.2.2.2
            go_upto_region 32 with fail
            go_region_held3 (fun w' => w'.cell? ⟨ab, 4, none⟩ = some (.int .i64 N)) (exact HS.out.ac.2.2.2.2) (first
              | (go_at_call 23; (with_reducible refine (c_grow (by first | exact HS.out | exact (HS.out.below (Below.refl _ _).drew).1) HI.out N HN0 HN1).mono ?_); rintro e w5 ⟨rfl, hs, _⟩; clear HS a0 a1 a2 a3 a4; have HS := Aside0.mk hs; clear hs; obtain ⟨a0, a1, a2, a3, a4⟩ := HS.out.ac)
              | (go_at_call 30; (with_reducible refine (c_rgrow (by first | exact HS.out | exact (HS.out.below (Below.refl _ _).drew).1) HI.out N).mono ?_); rintro e w5 ⟨rfl, hs, _⟩; clear HS a0 a1 a2 a3 a4; have HS := Aside0.mk hs; clear hs; obtain ⟨a0, a1, a2, a3, a4⟩ := HS.out.ac))
            all_goals
              go_wp2_with fail
              go_meet
              case rel => exact ⟨_, _, HS.out, grow_in HI.out N⟩
        · have d0 : (kd == 0) = false := by simp [k0]
          have d1 : (kd == 1) = false := by simp [k1]
          have d2 : (kd == 2) = false := by simp [k2]
          have d3 : (kd == 3) = false := by simp [k3]
          go_wp2_with fail
          go_meet
          case rel => exact ⟨h, P, HS.out, HI.out⟩
      case rest =>
        clear HS HI a0 a1 a2 a3 a4
        obtain ⟨h, P, hs, hin⟩ := hcut
        have HS := Aside0.mk hs
        have HI := Aside0.mk hin
        clear hs hin
        obtain ⟨A, c, r2, r3, r4, r5, r6⟩ := HS.out.rc
        cases hkn : h.known with
        | false =>
          as_aux_lemma =>
            rw [hkn] at r5
            have HKN := Aside0.mk hkn
            have CF : Aside0 (Calls Try.prog 17 #[.pointer (some ⟨g, 0, none⟩)] wc fun e w' => e = .returned (.tuple #[.int .i64 (0), .bool false]) ∧ wc = w') := ⟨by
              have := t_final HS.out
              rw [hkn] at this
              exact this⟩
            clear hkn
            go_upto_region 35 with (go_at_call 17; (with_reducible refine CF.out.mono ?_); rintro e w4 ⟨rfl, rfl⟩)
            have q2 := fun d os => cell_regrown r2 d os
            have q3 := fun d os => cell_regrown r3 d os
            have q4 := fun d os => cell_regrown r4 d os
            have q5 := fun d os => cell_regrown r5 d os
            have q6 := fun d os => cell_regrown r6 d os
            clear CF r2 r3 r4 r5 r6
            refine wp_region_quiet_below (by kernel_rfl) (by kernel_rfl) ?_
            repeat (go_big_quiet_step (first
              | (go_at_call 24; exact Calls.regrown_of (t_ready (HS.out.below (below_regrown _ _ _)).1 HI.out))
              | (go_at_call 31; exact Calls.regrown_of (t_rready (HS.out.below (below_regrown _ _ _)).1 HI.out))
              | (go_at_call 22; exact Calls.regrown_of (t_limit (HS.out.below (below_regrown _ _ _)).1))
              | (go_at_call 18; exact Calls.regrown_of (t_reach (HS.out.below (below_regrown _ _ _)).1))
              | (go_at_call 21; exact Calls.regrown_of (t_held (HS.out.below (below_regrown _ _ _)).1 HI.out))))
            refine wpQuiet_nil ?_
            intro _ hw'
            obtain ⟨⟨dq, osq⟩, hw''⟩ := hw'
            subst hw''
            go_wp2_with fail
            exact ⟨⟨k + 1, h, P, by omega, by simp, (HS.out.below (below_regrown wc dq osq)).1.out, HI.out⟩, by simp [intOf]; omega⟩
        | true =>
          as_aux_lemma =>
            rw [hkn] at r5
            have HKN := Aside0.mk hkn
            have CF : Aside0 (Calls Try.prog 17 #[.pointer (some ⟨g, 0, none⟩)] wc fun e w' => e = .returned (.tuple #[.int .i64 (h.final), .bool true]) ∧ wc = w') := ⟨by
              have := t_final HS.out
              rw [hkn] at this
              exact this⟩
            clear hkn
            go_upto_region 35 with (go_at_call 17; (with_reducible refine CF.out.mono ?_); rintro e w4 ⟨rfl, rfl⟩)
            have q2 := fun d os => cell_regrown r2 d os
            have q3 := fun d os => cell_regrown r3 d os
            have q4 := fun d os => cell_regrown r4 d os
            have q5 := fun d os => cell_regrown r5 d os
            have q6 := fun d os => cell_regrown r6 d os
            clear CF r2 r3 r4 r5 r6
            refine wp_region_quiet_below (by kernel_rfl) (by kernel_rfl) ?_
            repeat (go_big_quiet_step (first
              | (go_at_call 24; exact Calls.regrown_of (t_ready (HS.out.below (below_regrown _ _ _)).1 HI.out))
              | (go_at_call 31; exact Calls.regrown_of (t_rready (HS.out.below (below_regrown _ _ _)).1 HI.out))
              | (go_at_call 22; exact Calls.regrown_of (t_limit (HS.out.below (below_regrown _ _ _)).1))
              | (go_at_call 18; exact Calls.regrown_of (t_reach (HS.out.below (below_regrown _ _ _)).1))
              | (go_at_call 21; exact Calls.regrown_of (t_held (HS.out.below (below_regrown _ _ _)).1 HI.out))))
            refine wpQuiet_nil ?_
            intro _ hw'
            obtain ⟨⟨dq, osq⟩, hw''⟩ := hw'
            subst hw''
            go_wp2_with fail
            exact ⟨⟨k + 1, h, P, by omega, by simp, (HS.out.below (below_regrown wc dq osq)).1.out, HI.out⟩, by simp [intOf]; omega⟩
    · have hk' : k = acts.length := by omega
      have hlt' : ¬ (k : Int) < (acts.length : Int) := by omega
      clear hk'
      go_wp2_with fail
      go_ret
      exact ⟨rfl, HS.out.bel⟩
theorem plays_row (room : Int) (A1 : Option Addr) (acts : List ActI) (c1 : Nat) (w : World) (hr1 : Kd.C actK w A1 acts.length acts)
    (hok : ∀ x ∈ acts, (Lit.int .i64 x.1).wf = true ∧ (Lit.int .i64 x.2.1).wf = true ∧ ((∀ y ∈ x.2.2.1, (Lit.int .u8 y).wf = true) ∧ x.2.2.1.length * Try.prog.bytesOf 5 ≤ reachBytes) ∧ True ∧ (Lit.int .i64 x.2.2.2.2).wf = true) (hl1 : acts.length * Try.prog.bytesOf 41 ≤ reachBytes) :
    Calls Try.prog 6 #[.int .i64 room, .slice A1 acts.length c1] w fun e w' => e = .returned (.bool true) ∧ Below w.heap.size w w' := by
  have e1 : Try.prog.bytesOf 5 = 1 := by kernel_rfl
  have e2 : 0 < Try.prog.bytesOf 41 := by decide +kernel
  have e4 : reachBytes = 140737488351232 := by decide +kernel
  have hl2 : acts.length ≤ 140737488351232 := by
    rw [e4] at hl1
    exact Nat.le_trans (Nat.le_mul_of_pos_right _ e2) hl1
  have m0 : IntKind.i64.min = -9223372036854775808 := by decide +kernel
  have m1 : IntKind.i64.max = 9223372036854775807 := by decide +kernel
  have n0 : IntKind.u8.min = 0 := by decide +kernel
  have n1 : IntKind.u8.max = 255 := by decide +kernel
  have hw : ∀ x : Int, (Lit.int .i64 x).wf = true → -9223372036854775808 ≤ x ∧ x ≤ 9223372036854775807 := fun x h => by
    simp [Lit.wf, m0, m1] at h
    exact h
  have hu : ∀ x : Int, (Lit.int .u8 x).wf = true → 0 ≤ x ∧ x ≤ 255 := fun x h => by
    simp [Lit.wf, n0, n1] at h
    exact h
  by_cases hr : room < 0 ∨ 1048576 < room
  · exact play_bad room hr A1 acts c1 w hl2
  · refine play_good room (by omega) (by omega) A1 acts c1 w hl2 hr1 (fun x hx => ?_)
    obtain ⟨_, q1, ⟨q2, q3⟩, _, q4⟩ := hok x hx
    rw [e1, e4] at q3
    exact ⟨hw _ q1, by omega, fun y hy => hu y (q2 y hy), hw _ q4⟩
end Go.Proofs.Ytakmcbakogjeeaa.Ib
