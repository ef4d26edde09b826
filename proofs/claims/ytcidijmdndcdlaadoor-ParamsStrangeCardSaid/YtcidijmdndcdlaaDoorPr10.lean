/- Parameters (layer 3): take; no condition. -/
import Derived.Test.YtcidijmdndcdlaaDoorPr9
set_option linter.unusedVariables false
set_option linter.unusedSimpArgs false
namespace Go.Proofs.YtcidijmdndcdlaaDoor.Pr
open Go Go.RowKit Go.Maps Go.Proofs.YtcidijmdndcdlaaDoor.Pm Go.Proofs.YtcidijmdndcdlaaDoor.Rm Go.Proofs.YtcidijmdndcdlaaDoor.OctM
open Go.Proofs.YtcidijmdndcdlaaDoorW.PrintWords Go.Proofs.YtcidijmdndcdlaaDoorW.PrintLast Go.Proofs.YtcidijmdndcdlaaDoorW.PrintMore
variable {W W' W0 : World} {g b B m n : Nat} {p : Pm} {vo vf va : Value} {kv : KV}
def badOf (server : Bool) (id : Int) : Bool := !server && (decide (id = 0) || decide (id = 2) || decide (id = 16))
theorem okE_bad {server : Bool} {id : Int} {xs : List Int} (h : badOf server id = true) : okE varF server (id, xs) = false := by
  unfold badOf at h; unfold okE; simp only [h, if_true]
theorem okE_num {server : Bool} {k : Nat} (hk : k < 12) {xs : List Int} (h : badOf server (fid k) = false) : okE varF server (fid k, xs) = numOk varF k xs := by
  unfold badOf at h; unfold okE; simp only [h, fidx_fid k hk]; rfl
theorem upd_num {k : Nat} (hk : k < 12) {xs : List Int} : Pm.upd varF p (fid k, xs) = { p with n := p.n.set k (varF xs 0).1 } := by
  unfold Pm.upd; simp only [fidx_fid k hk]
theorem fidx_out {id : Int} (h : ∀ k, k < 12 → fid k ≠ id) : fidx id = none := by
  cases hx : fidx id with
  | none => rfl
  | some k => obtain ⟨hk, e⟩ := fidx_some hx; exact absurd e (h k hk)
theorem okE_rest {server : Bool} {id : Int} {xs : List Int} (hb : badOf server id = false) (hf : fidx id = none) :
    okE varF server (id, xs) = (if id = 12 then decide (xs.length = 0) else if id = 2 then decide (xs.length = 16) else if id = 0 ∨ id = 15 ∨ id = 16 then decide (xs.length ≤ 20) else true) := by
  unfold badOf at hb; unfold okE; simp only [hb, hf]; rfl
theorem upd_rest {id : Int} {xs : List Int} (hf : fidx id = none) :
    Pm.upd varF p (id, xs) = (if id = 12 then { p with still := true } else if id = 2 then { p with reset := xs, hasReset := true } else if id = 0 then { p with orig := xs } else if id = 15 then { p with first := xs } else if id = 16 then { p with again := xs, hasAgain := true } else p) := by
  unfold Pm.upd; simp only [hf]
/-- A text set, by its number. -/
def txt (p : Pm) (id : Int) (xs : List Int) : Pm := if id = 0 then { p with orig := xs } else if id = 15 then { p with first := xs } else { p with again := xs }
theorem getL_q {g : Nat} {id : Int} {o : Nat} (h : Idq id o) {kv : KV} (h0 : getL kv 0 = some (pq g 13)) (h1 : getL kv 15 = some (pq g 14)) (h2 : getL kv 16 = some (pq g 15)) : getL kv id = some (pq g o) := by
  rcases h with ⟨rfl, rfl⟩ | ⟨rfl, rfl⟩ | ⟨rfl, rfl⟩ <;> assumption
/-- What take leaves. -/
def TakePost (W : World) (B g : Nat) (p : Pm) (server : Bool) (id : Int) (xs : List Int) (e : Ending) (w' : World) : Prop :=
  ButM W w' g ∧ ((okE varF server (id, xs) = true ∧ e = .returned .nilIface ∧ ∃ vo' vf' va', RdSt B w' g (Pm.upd varF p (id, xs)) vo' vf' va') ∨ (okE varF server (id, xs) = false ∧ e = .returned (errV 11)))
set_option maxRecDepth 100000 in
set_option maxHeartbeats 3200000 in
theorem take_s (hG : GL W) (h : RdSt B W g p vo vf va) (hB : B ≤ W.heap.size) (id : Int) (hid : (Lit.int .i64 id).wf = true) {v : Value} {xs : List Int} (hv : Sl W v xs) (hb : Bytes xs) (hl : xs.length ≤ big) (server : Bool) :
    Calls Tryd.prog 41 #[.pointer (some ⟨g, 0, none⟩), .int .i64 id, v, .bool server] W (TakePost W B g p server id xs) := by
  have H := Aside0.mk h
  have HG := Aside0.mk hG
  have HV := Aside0.mk hv
  have HBY := Aside0.mk hb
  have HL := Aside0.mk hl
  have HBB := Aside0.mk hB
  have HID := Aside0.mk hid
  obtain ⟨bad, hbad⟩ : ∃ bad, badOf server id = bad := ⟨_, rfl⟩
  have HBD := Aside0.mk hbad
  clear h hG hv hb hl hB hid hbad
  go_enter Tryd.func41, Tryd.ntmps41
  go_upto_region 1 with fail
  go_cut [24] from 11 to 24 (fun c wx => c = .bool bad ∧ W = wx)
  case first =>
    cases server with
    | true =>
      obtain rfl : false = bad := by rw [← HBD.out]; rfl
      go_wp2_with fail
      go_meet
      exact ⟨rfl, rfl⟩
    | false =>
      by_cases h0 : id = 0
      · obtain rfl : true = bad := by rw [← HBD.out, h0]; rfl
        have q0 : (id == 0) = true := by simp [h0]
        clear h0
        go_wp2_with fail
        go_meet
        exact ⟨rfl, rfl⟩
      · have q0 : (id == 0) = false := by simp [h0]
        by_cases h2 : id = 2
        · obtain rfl : true = bad := by rw [← HBD.out, h2]; rfl
          have q2 : (id == 2) = true := by simp [h2]
          clear h0 h2
          go_wp2_with fail
          go_meet
          exact ⟨rfl, rfl⟩
        · have q2 : (id == 2) = false := by simp [h2]
          by_cases h16 : id = 16
          · obtain rfl : true = bad := by rw [← HBD.out, h16]; rfl
            have q16 : (id == 16) = true := by simp [h16]
            clear h0 h2 h16
            go_wp2_with fail
            go_meet
            exact ⟨rfl, rfl⟩
          · obtain rfl : false = bad := by rw [← HBD.out]; simp [badOf, h0, h2, h16]
            have q16 : (id == 16) = false := by simp [h16]
            clear h0 h2 h16
            go_wp2_with fail
            go_meet
            exact ⟨rfl, rfl⟩
  case rest =>
    obtain ⟨rfl, rfl⟩ := hcut
    cases bad with
    | true =>
      go_wp2_with fail
      go_ret
      exact ⟨ButM.refl _ _, .inr ⟨okE_bad HBD.out, rfl⟩⟩
    | false =>
      go_wp2_with (first
        | (go_at_call 19; (with_reducible refine (fields_s _).mono ?_); rintro e w1 ⟨b, rfl, hf, hlt, hb⟩; have HF := Aside0.mk hf; have HB1 := Aside0.mk hb; clear hf hb hlt))
      go_loopw [29] (fun iv W' => ∃ j : Nat, j ≤ 12 ∧ iv = .int .i64 j ∧ (∀ k, k < j → fid k ≠ id) ∧ Below W.heap.size W W' ∧ FldAt W' b g) (fun iv _ => 12 - (intOf iv).toNat)
      case atStart => exact ⟨0, by omega, rfl, (fun k hk => by omega), HB1.out, HF.out⟩
      case round =>
        obtain ⟨j, hj, rfl, hno, hB, hf⟩ := hrel
        have HN := Aside0.mk hno
        have HB := Aside0.mk hB
        have HG4 := Aside0.mk hf
        clear hno hB hf HB1 HF
        by_cases hlt : j < 12
        · obtain ⟨c0, c1, c2, c3, c4⟩ := HG4.out.cells hlt
          by_cases he : fid j = id
          · have hbe : (fid j == id) = true := by simp [he]
            have HBX := Aside0.mk (Bl.alloc HB.out (.cells #[.int .i64 (fid j), .pointer (some ⟨g, foff j, none⟩), .int .i64 (fleast j), .int .i64 (fmost j), .int .i64 (fnone j)] 57 (0, 0)))
            have NS := Aside0.mk (numbered_s (W := wr.alloc (.cells #[.int .i64 (fid j), .pointer (some ⟨g, foff j, none⟩), .int .i64 (fleast j), .int .i64 (fmost j), .int .i64 (fnone j)] 57 (0, 0))) (gl_same HG.out (Sames.of_below HBX.out)) (H.out.pm.below HBX.out H.out.pm.lt) H.out.sz hlt (HV.out.below HBX.out) HBY.out HL.out)
            have HE := Aside0.mk he
            clear he
            go_wp2_with (first
              | (go_at_call 51; (with_reducible refine NS.out.mono ?_); rintro e w5 (⟨h1, rfl, h2, h3⟩ | ⟨h1, rfl, h3⟩) <;> first | (have HP5 := Aside0.mk (And.intro h1 (And.intro h2 h3)); clear h1 h2 h3) | (have HP5 := Aside0.mk (And.intro h1 h3); clear h1 h3)))
            · go_ret
              have e1 := HE.out
              obtain ⟨q1, q2, q3⟩ := HP5.out
              have hx : ButM W w5 g := (ButM.of_below HBX.out).trans q3
              rw [← e1]
              refine ⟨hx, .inl ⟨?_, rfl, vo, vf, va, ?_⟩⟩
              · rw [okE_num hlt (by rw [e1]; exact HBD.out)]; exact q1
              · rw [upd_num hlt]
                exact ⟨q2, ⟨by simp [H.out.sz.n], H.out.sz.r⟩, H.out.so.move hx, H.out.sf.move hx, H.out.sa.move hx, H.out.ap, H.out.gB, H.out.B0⟩
            · go_ret
              have e1 := HE.out
              obtain ⟨q1, q3⟩ := HP5.out
              have hx : ButM W w5 g := (ButM.of_below HBX.out).trans q3
              rw [← e1]
              refine ⟨hx, .inr ⟨?_, rfl⟩⟩
              rw [okE_num hlt (by rw [e1]; exact HBD.out)]; exact q1
          · have hbe : (fid j == id) = false := by simp [he]
            have HE := Aside0.mk he
            clear he
            go_wp2_with fail
            go_roundw
            case rel => exact ⟨j + 1, by omega, by go_num, (fun k hk => by
              by_cases hkj : k = j
              · rw [hkj]; exact HE.out
              · exact HN.out k (by omega)), Bl.alloc HB.out _, HG4.out.below (Bl.alloc (Below.refl _ _) _) HG4.out.lt⟩
            case measure => simp [intOf]; omega
        · obtain rfl : j = 12 := by omega
          have HFX := Aside0.mk (fidx_out HN.out)
          clear HG4 HN
          have HR := Aside0.mk (H.out.below HB.out)
          obtain ⟨A, c, rfl, hc, hC⟩ := HV.out
          have HC := Aside0.mk (And.intro hc hC)
          clear hc hC
          obtain ⟨q10, q13, q14, q15, q16, q33⟩ := HR.out.pm.cells HR.out.sz
          have z10 := HR.out.pm.free 10
          have z16 := HR.out.pm.free 16
          by_cases e12 : id = 12
          · have b12 : (id == 12) = true := by simp [e12]
            have HO := Aside0.mk (And.intro (okE_rest (xs := xs) HBD.out HFX.out) (upd_rest (p := p) (xs := xs) HFX.out))
            rw [if_pos e12, if_pos e12] at HO
            clear e12
            by_cases hx : xs.length = 0
            · have bx : ((xs.length : Int) == 0) = true := by simp [hx]
              have HXX := Aside0.mk hx
              clear hx
              go_wp2_with fail
              go_ret
              refine ⟨((ButM.of_below HB.out).trans ((ButM.refl _ g).set 10 _)), .inl ⟨by rw [HO.out.1]; exact decide_eq_true HXX.out, rfl, vo, vf, va, ?_⟩⟩
              rw [HO.out.2]
              exact (HR.out.seta true).1
            · have bx : ((xs.length : Int) == 0) = false := beq_eq_false_iff_ne.mpr (by omega)
              have HXX := Aside0.mk hx
              clear hx
              go_wp2_with fail
              go_ret
              exact ⟨((ButM.of_below HB.out).trans ((ButM.refl _ g).set 10 _)), .inr ⟨by rw [HO.out.1]; exact decide_eq_false HXX.out, rfl⟩⟩
          have b12 : (id == 12) = false := by simp [e12]
          by_cases e2 : id = 2
          · have b2 : (id == 2) = true := by simp [e2]
            have HO := Aside0.mk (And.intro (okE_rest (xs := xs) HBD.out HFX.out) (upd_rest (p := p) (xs := xs) HFX.out))
            rw [if_neg e12, if_neg e12, if_pos e2, if_pos e2] at HO
            clear e12 e2
            obtain ⟨w2, hcp, hr2, hx2⟩ := HR.out.copy (c := c) (Kd.C_below HC.out.2 HB.out)
            obtain ⟨_, _, _, _, _, p33⟩ := hr2.pm.cells hr2.sz
            have z33 := hr2.pm.free 33
            have HR2 := Aside0.mk hr2
            have HX2 := Aside0.mk hx2
            have hlt16 : (xs.take 16).length = min 16 xs.length := List.length_take
            generalize (xs.take 16).length = N at *
            clear hr2 hx2 q10 q13 q14 q15 q16 q33 z10 z16
            by_cases hx : xs.length = 16
            · have bx : ((xs.length : Int) == (N : Int)) = true := by simp; omega
              have by_ : ((xs.length : Int) == 16) = true := by simp; omega
              have HXX := Aside0.mk hx
              clear hx hlt16
              go_wp2_with fail
              go_ret
              refine ⟨((ButM.of_below HB.out).trans HX2.out).set 33 _, .inl ⟨by rw [HO.out.1]; exact decide_eq_true HXX.out, rfl, vo, vf, va, ?_⟩⟩
              rw [HO.out.2]
              have := (HR2.out.seta true).2.2
              rw [copied_16 H.out.sz.r HXX.out] at this
              exact this
            · by_cases hy : xs.length < 16
              · have bx : ((xs.length : Int) == (N : Int)) = true := by simp; omega
                have by_ : ((xs.length : Int) == 16) = false := by simp; omega
                have HXX := Aside0.mk hx
                clear hx hy hlt16
                go_wp2_with fail
                go_ret
                exact ⟨((ButM.of_below HB.out).trans HX2.out).set 33 _, .inr ⟨by rw [HO.out.1]; exact decide_eq_false HXX.out, rfl⟩⟩
              · have bx : ((xs.length : Int) == (N : Int)) = false := by simp; omega
                have HXX := Aside0.mk hx
                clear hx hy hlt16
                go_wp2_with fail
                go_ret
                exact ⟨((ButM.of_below HB.out).trans HX2.out).set 33 _, .inr ⟨by rw [HO.out.1]; exact decide_eq_false HXX.out, rfl⟩⟩
          have b2 : (id == 2) = false := by simp [e2]
          by_cases hq : id = 0 ∨ id = 15 ∨ id = 16
          · have HO := Aside0.mk (And.intro (okE_rest (xs := xs) HBD.out HFX.out) (upd_rest (p := p) (xs := xs) HFX.out))
            rw [if_neg e12, if_neg e12, if_neg e2, if_neg e2, if_pos hq] at HO
            obtain ⟨o, ho⟩ : ∃ o, Idq id o := by
              rcases hq with rfl | rfl | rfl
              · exact ⟨13, .inl ⟨rfl, rfl⟩⟩
              · exact ⟨14, .inr (.inl ⟨rfl, rfl⟩)⟩
              · exact ⟨15, .inr (.inr ⟨rfl, rfl⟩)⟩
            have HQ := Aside0.mk ho
            clear e12 e2 ho
            go_upto_if 81 with fail
            go_cut [81] from 82 to 84 (fun c wx => c = .bool true ∧ wr = wx)
            case first =>
              rcases hq with e | e | e
              · have y0 : (id == 0) = true := by simp [e]
                clear e
                go_wp2_with fail
                go_meet
                exact ⟨by rw [y0], rfl⟩
              · have y0 : (id == 0) = false := by simp [e]
                have y1 : (id == 15) = true := by simp [e]
                clear e
                go_wp2_with fail
                go_meet
                exact ⟨rfl, rfl⟩
              · have y0 : (id == 0) = false := by simp [e]
                have y1 : (id == 15) = false := by simp [e]
                have y2 : (id == 16) = true := by simp [e]
                clear e
                go_wp2_with fail
                go_meet
                exact ⟨rfl, rfl⟩
            case rest =>
              obtain ⟨rfl, rfl⟩ := hcut
              have H0 := Aside0.mk hq
              clear hq
              by_cases hx : xs.length ≤ 20
              · have hgt : ¬ ((xs.length : Int) > 20) := by omega
                have HXX := Aside0.mk hx
                clear hx
                go_upto_region 23 with fail
                have CL : Aside0 (∀ w', Below W.heap.size W w' → Calls Tryd.prog 52 #[.slice A xs.length c] w' fun e w4 => ∃ A' c', e = .returned (.slice A' xs.length c') ∧ (Kd.int .u8).R 5 w4 W.heap.size (fun _ => True) (.slice A' xs.length c') xs ∧ Below w'.heap.size w' w4) := ⟨fun w' hb => by
                  refine (clone_s (HV.out.below hb) HL.out).mono ?_
                  rintro e w4 ⟨v', rfl, hr, hb4⟩
                  obtain ⟨A', c', rfl, _, _⟩ := Kd.R_reads hr
                  exact ⟨A', c', rfl, Kd.R_lower hr hb.size, hb4⟩⟩
                have HW := Aside0.mk (Bl.drew HB.out)
                obtain ⟨u0, hu0⟩ : ∃ u0, W.cell? ⟨g, o, none⟩ = some u0 := by
                  obtain ⟨_, r13, r14, r15, _, _⟩ := H.out.pm.cells H.out.sz
                  rcases HQ.out with ⟨_, rfl⟩ | ⟨_, rfl⟩ | ⟨_, rfl⟩
                  · exact ⟨_, r13⟩
                  · exact ⟨_, r14⟩
                  · exact ⟨_, r15⟩
                have HP : Aside0 (∀ w', Below W.heap.size W w' → w'.cell? ⟨g, o, none⟩ = some u0 ∧ w'.frozen? ⟨g, o, none⟩ = false) := ⟨fun w' hb => ⟨Bl.cell hb hu0, (H.out.below hb).pm.free o⟩⟩
                have FIN : Aside0 (∀ w' A' c', Below W.heap.size W w' → (Kd.int .u8).R 5 w' W.heap.size (fun _ => True) (.slice A' xs.length c') xs → ∃ vo' vf' va', RdSt B (w'.setCell ⟨g, o, none⟩ (.slice A' xs.length c')) g (txt p id xs) vo' vf' va' ∧ ButM W (w'.setCell ⟨g, o, none⟩ (.slice A' xs.length c')) g) := ⟨fun w' A' c' hb hr => by
                  have hst := H.out.below hb
                  have how : Ow w' B g (.slice A' xs.length c') xs := ow_new hr H.out.pm.lt HBB.out
                  have hold : ∀ u ys k, Ow W B g u ys → u.ownBlock = some k → k < W.heap.size := fun u ys k hu hk => own_lt hu.own k hk
                  have hnb : ∀ k, (Value.slice A' xs.length c').ownBlock = some k → vo.ownBlock ≠ some k ∧ vf.ownBlock ≠ some k := fun k hk => by
                    have hge := own_base (Kd.own_of_R hr) k hk
                    exact ⟨fun e => by have := hold _ _ k H.out.so e; omega, fun e => by have := hold _ _ k H.out.sf e; omega⟩
                  obtain ⟨t1, t2, t3⟩ := hst.text how hnb
                  have hbx := (ButM.of_below (m := g) hb).set o (.slice A' xs.length c')
                  rcases HQ.out with ⟨rfl, rfl⟩ | ⟨rfl, rfl⟩ | ⟨rfl, rfl⟩
                  · exact ⟨_, _, _, t1, hbx⟩
                  · exact ⟨_, _, _, t2, hbx⟩
                  · exact ⟨_, _, _, t3, hbx⟩⟩
                clear q10 q13 q14 q15 q16 q33 z10 z16 hu0
                go_cut [] from 89 to 104 (fun wx => ∃ vo' vf' va', RdSt B wx g (txt p id xs) vo' vf' va' ∧ ButM W wx g)
                case first =>
                  go_region_with (first
                  | (rw [run_makeMap])
                  | (have U := Aside0.mk (HM.out.put (by omega) (k := 0) (by decide) (pq g 13) HW.out); rw [U.out.1]; have hs := Aside0.mk (U.out.2.1); have hw := Aside0.mk U.out.2.2.1; (try (have hr := Aside0.mk (U.out.2.2.2 _ _ HZ.out); clear HZ; have HZ := hr; clear hr)); clear HM HW U; have HM := hs; have HW := hw; clear hs hw; have fc := (HP.out _ HW.out).1; have fz := (HP.out _ HW.out).2)
                  | (have U := Aside0.mk (HM.out.put (by omega) (k := 15) (by decide) (pq g 14) HW.out); rw [U.out.1]; have hs := Aside0.mk (U.out.2.1); have hw := Aside0.mk U.out.2.2.1; (try (have hr := Aside0.mk (U.out.2.2.2 _ _ HZ.out); clear HZ; have HZ := hr; clear hr)); clear HM HW U; have HM := hs; have HW := hw; clear hs hw; have fc := (HP.out _ HW.out).1; have fz := (HP.out _ HW.out).2)
                  | (have U := Aside0.mk (HM.out.put (by omega) (k := 16) (by decide) (pq g 15) HW.out); rw [U.out.1]; have hs := Aside0.mk (U.out.2.1); have hw := Aside0.mk U.out.2.2.1; (try (have hr := Aside0.mk (U.out.2.2.2 _ _ HZ.out); clear HZ; have HZ := hr; clear hr)); clear HM HW U; have HM := hs; have HW := hw; clear hs hw; have fc := (HP.out _ HW.out).1; have fz := (HP.out _ HW.out).2)
                  | (have HM := Aside0.mk (Mq.made1 _ HB.out).1; have hw := Aside0.mk (Mq.made1 _ HB.out).2; clear HW; have HW := hw; clear hw; have U := Aside0.mk (HM.out.put (by omega) (k := 0) (by decide) (pq g 13) HW.out); rw [U.out.1]; have hs := Aside0.mk (U.out.2.1); have hw := Aside0.mk U.out.2.2.1; (try (have hr := Aside0.mk (U.out.2.2.2 _ _ HZ.out); clear HZ; have HZ := hr; clear hr)); clear HM HW U; have HM := hs; have HW := hw; clear hs hw; have fc := (HP.out _ HW.out).1; have fz := (HP.out _ HW.out).2)
                  | (have HM := Aside0.mk (Mq.made1 _ HB.out).1; have hw := Aside0.mk (Mq.made1 _ HB.out).2; clear HW; have HW := hw; clear hw; have U := Aside0.mk (HM.out.put (by omega) (k := 15) (by decide) (pq g 14) HW.out); rw [U.out.1]; have hs := Aside0.mk (U.out.2.1); have hw := Aside0.mk U.out.2.2.1; (try (have hr := Aside0.mk (U.out.2.2.2 _ _ HZ.out); clear HZ; have HZ := hr; clear hr)); clear HM HW U; have HM := hs; have HW := hw; clear hs hw; have fc := (HP.out _ HW.out).1; have fz := (HP.out _ HW.out).2)
                  | (have HM := Aside0.mk (Mq.made1 _ HB.out).1; have hw := Aside0.mk (Mq.made1 _ HB.out).2; clear HW; have HW := hw; clear hw; have U := Aside0.mk (HM.out.put (by omega) (k := 16) (by decide) (pq g 15) HW.out); rw [U.out.1]; have hs := Aside0.mk (U.out.2.1); have hw := Aside0.mk U.out.2.2.1; (try (have hr := Aside0.mk (U.out.2.2.2 _ _ HZ.out); clear HZ; have HZ := hr; clear hr)); clear HM HW U; have HM := hs; have HW := hw; clear hs hw; have fc := (HP.out _ HW.out).1; have fz := (HP.out _ HW.out).2)
                  | (have HM := Aside0.mk (Mq.made _ HW.out); have hw := Aside0.mk (Bl.alloc HW.out (.map #[] 0)); have hr := Aside0.mk (Kd.R_below HZ.out (Bl.alloc (Below.refl _ _) (.map #[] 0))); clear HW HZ; have HW := hw; have HZ := hr; clear hw hr; have U := Aside0.mk (HM.out.put (by omega) (k := 0) (by decide) (pq g 13) HW.out); rw [U.out.1]; have hs := Aside0.mk (U.out.2.1); have hw := Aside0.mk U.out.2.2.1; (try (have hr := Aside0.mk (U.out.2.2.2 _ _ HZ.out); clear HZ; have HZ := hr; clear hr)); clear HM HW U; have HM := hs; have HW := hw; clear hs hw; have fc := (HP.out _ HW.out).1; have fz := (HP.out _ HW.out).2)
                  | (have HM := Aside0.mk (Mq.made _ HW.out); have hw := Aside0.mk (Bl.alloc HW.out (.map #[] 0)); have hr := Aside0.mk (Kd.R_below HZ.out (Bl.alloc (Below.refl _ _) (.map #[] 0))); clear HW HZ; have HW := hw; have HZ := hr; clear hw hr; have U := Aside0.mk (HM.out.put (by omega) (k := 15) (by decide) (pq g 14) HW.out); rw [U.out.1]; have hs := Aside0.mk (U.out.2.1); have hw := Aside0.mk U.out.2.2.1; (try (have hr := Aside0.mk (U.out.2.2.2 _ _ HZ.out); clear HZ; have HZ := hr; clear hr)); clear HM HW U; have HM := hs; have HW := hw; clear hs hw; have fc := (HP.out _ HW.out).1; have fz := (HP.out _ HW.out).2)
                  | (have HM := Aside0.mk (Mq.made _ HW.out); have hw := Aside0.mk (Bl.alloc HW.out (.map #[] 0)); have hr := Aside0.mk (Kd.R_below HZ.out (Bl.alloc (Below.refl _ _) (.map #[] 0))); clear HW HZ; have HW := hw; have HZ := hr; clear hw hr; have U := Aside0.mk (HM.out.put (by omega) (k := 16) (by decide) (pq g 15) HW.out); rw [U.out.1]; have hs := Aside0.mk (U.out.2.1); have hw := Aside0.mk U.out.2.2.1; (try (have hr := Aside0.mk (U.out.2.2.2 _ _ HZ.out); clear HZ; have HZ := hr; clear hr)); clear HM HW U; have HM := hs; have HW := hw; clear hs hw; have fc := (HP.out _ HW.out).1; have fz := (HP.out _ HW.out).2)
                  | (rw [HM.out.look HQ.out.wf (getL_q HQ.out rfl rfl rfl)])
                  | (go_at_call 52; (refine (CL.out _ HW.out).mono ?_); rintro e w4 ⟨A', c', rfl, hr, hb⟩; have hw := Aside0.mk (Bl.then HW.out hb); have HZ := Aside0.mk hr; (try (have hm := Aside0.mk (HM.out.below hb); clear HM; have HM := hm; clear hm)); clear HW hr hb; have HW := hw; clear hw; have fc := (HP.out _ HW.out).1; have fz := (HP.out _ HW.out).2)
                  | (have HM := Aside0.mk (Mq.made1 _ HB.out).1; have hw := Aside0.mk (Mq.made1 _ HB.out).2; clear HW; have HW := hw; clear hw; go_at_call 52; (refine (CL.out _ HW.out).mono ?_); rintro e w4 ⟨A', c', rfl, hr, hb⟩; have hw := Aside0.mk (Bl.then HW.out hb); have HZ := Aside0.mk hr; (try (have hm := Aside0.mk (HM.out.below hb); clear HM; have HM := hm; clear hm)); clear HW hr hb; have HW := hw; clear hw; have fc := (HP.out _ HW.out).1; have fz := (HP.out _ HW.out).2))
                  all_goals
                    go_wp2_with fail
                    go_meet
                    exact FIN.out _ _ _ HW.out HZ.out
                case rest =>
                  obtain ⟨vo', vf', va', hst5, hx5⟩ := hcut
                  have HR5 := Aside0.mk (And.intro hst5 hx5)
                  obtain ⟨_, _, _, _, k16, _⟩ := hst5.pm.cells hst5.sz
                  have kz := hst5.pm.free 16
                  have hag : (txt p id xs).hasAgain = p.hasAgain := by unfold txt; (repeat' split) <;> rfl
                  rw [hag] at k16
                  clear hst5 hx5 hag
                  have HU : Aside0 (∀ r, r = (p.hasAgain || decide (id = 16)) → { txt p id xs with hasAgain := r } = Pm.upd varF p (id, xs)) := ⟨fun r hr => by
                    rw [HO.out.2, hr]
                    unfold txt
                    rcases H0.out with rfl | rfl | rfl <;> simp⟩
                  obtain ⟨ag, hagv⟩ : ∃ ag, p.hasAgain = ag := ⟨_, rfl⟩
                  rw [hagv] at k16 HU
                  clear hagv
                  obtain ⟨i16, hi16⟩ : ∃ i16, (id == 16) = i16 := ⟨_, rfl⟩
                  have hd16 : decide (id = 16) = i16 := by rw [← hi16]; rfl
                  rw [hd16] at HU
                  clear hd16
                  cases ag with
                  | true =>
                    go_wp2_with fail
                    go_ret
                    refine ⟨HR5.out.2.set 16 _, .inl ⟨by rw [HO.out.1]; exact decide_eq_true HXX.out, rfl, vo', vf', va', ?_⟩⟩
                    rw [← HU.out true rfl]
                    exact (HR5.out.1.seta true).2.1
                  | false =>
                    go_wp2_with fail
                    go_ret
                    refine ⟨HR5.out.2.set 16 _, .inl ⟨by rw [HO.out.1]; exact decide_eq_true HXX.out, rfl, vo', vf', va', ?_⟩⟩
                    rw [← HU.out i16 rfl]
                    exact (HR5.out.1.seta i16).2.1
              · have hgt : (xs.length : Int) > 20 := by omega
                have HXX := Aside0.mk hx
                clear hx
                go_wp2_with fail
                go_ret
                exact ⟨ButM.of_below HB.out, .inr ⟨by rw [HO.out.1]; exact decide_eq_false HXX.out, rfl⟩⟩
          · have h0 : (id == 0) = false := by simp; omega
            have h15 : (id == 15) = false := by simp; omega
            have h16 : (id == 16) = false := by simp; omega
            have HO := Aside0.mk (And.intro (okE_rest (xs := xs) HBD.out HFX.out) (upd_rest (p := p) (xs := xs) HFX.out))
            rw [if_neg e12, if_neg e12, if_neg e2, if_neg e2, if_neg hq, if_neg (by omega), if_neg (by omega), if_neg (by omega)] at HO
            clear e12 e2 hq
            go_wp2_with fail
            go_ret
            refine ⟨ButM.of_below HB.out, .inl ⟨HO.out.1, rfl, vo, vf, va, ?_⟩⟩
            rw [HO.out.2]
            exact HR.out
end Go.Proofs.YtcidijmdndcdlaaDoor.Pr
