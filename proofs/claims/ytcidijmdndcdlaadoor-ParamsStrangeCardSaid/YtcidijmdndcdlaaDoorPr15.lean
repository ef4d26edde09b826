/- Parameters (layer 3): the law ParamsBack; what its calls tell, in its words; no condition. -/
import Derived.Test.YtcidijmdndcdlaaDoorPr14
import Derived.Lib.QuietBelow
import Derived.BigQuiet
set_option linter.unusedVariables false
set_option linter.unusedSimpArgs false
namespace Go.Proofs.YtcidijmdndcdlaaDoor.Pr
open Go Go.RowKit Go.Maps Go.Proofs.YtcidijmdndcdlaaDoor.Pm Go.Proofs.YtcidijmdndcdlaaDoor.Rm Go.Proofs.YtcidijmdndcdlaaDoor.OctM
open Go.Proofs.YtcidijmdndcdlaaDoorW.PrintWords Go.Proofs.YtcidijmdndcdlaaDoorW.PrintLast Go.Proofs.YtcidijmdndcdlaaDoorW.PrintMore
variable {W W' W0 Z : World} {g b B m n : Nat} {p q : Pm} {vo vf va : Value} {kv : KV} {came : List Int}
/-- The texts of a record. -/
structure Tx (W : World) (p : Pm) (vo vf va : Value) : Prop where
  so : Sl W vo p.orig
  sf : Sl W vf p.first
  sa : Sl W va p.again
theorem Tx.below (h : Tx W p vo vf va) (hb : Below W.heap.size W W') : Tx W' p vo vf va := ⟨h.so.below hb, h.sf.below hb, h.sa.below hb⟩
theorem Tx.one (h : Tx W p vo vf va) : vo.oneCell' = true ∧ vf.oneCell' = true ∧ va.oneCell' = true := by
  obtain ⟨A, c, rfl, _⟩ := h.so
  obtain ⟨A, c, rfl, _⟩ := h.sf
  obtain ⟨A, c, rfl, _⟩ := h.sa
  exact ⟨rfl, rfl, rfl⟩
theorem Got.tx (h : Got B W p vo vf va) : Tx W p vo vf va := ⟨sl_of_R h.so, sl_of_R h.sf, sl_of_R h.sa⟩
theorem Pm.Ok.sz (h : p.Ok) : Sz p := ⟨h.n, h.r⟩
/-- Put, where it may be. -/
theorem putOk (hG : GL W) (hp : p.Ok) (hx : Tx W p vo vf va) {server : Bool} (hc : p.check server = true) :
    Calls Tryd.prog 8 #[.agg (pmRow p vo vf va), .bool server] W fun e w' => ∃ A c, e = .returned (.tuple #[.slice A (put encV p server).length c, .int .i64 0]) ∧ Sl w' (.slice A (put encV p server).length c) (put encV p server) ∧ Below W.heap.size W w' := by
  obtain ⟨Ao, co, rfl, h1, h2⟩ := hx.so
  obtain ⟨Af, cf, rfl, h3, h4⟩ := hx.sf
  obtain ⟨Aa, ca, rfl, h5, h6⟩ := hx.sa
  refine (put_s hG ⟨hp.n, hp.r⟩ server Ao Af Aa co cf ca ⟨Ao, co, rfl, h1, h2⟩ ⟨Af, cf, rfl, h3, h4⟩ ⟨Aa, ca, rfl, h5, h6⟩ hc).mono ?_
  rintro e w' ⟨v, rfl, hr, hb⟩
  obtain ⟨A, c, rfl, hc1, hC⟩ := sl_of_R hr
  exact ⟨A, c, rfl, ⟨A, c, rfl, hc1, hC⟩, hb⟩
theorem putBad (hp : p.Ok) (hx : Tx W p vo vf va) {server : Bool} (hc : p.check server = false) :
    Calls Tryd.prog 8 #[.agg (pmRow p vo vf va), .bool server] W fun e w' => e = .returned (.tuple #[.slice none 0 0, .int .i64 2]) ∧ Below W.heap.size W w' := by
  obtain ⟨Ao, co, rfl, h1, h2⟩ := hx.so
  obtain ⟨Af, cf, rfl, h3, h4⟩ := hx.sf
  obtain ⟨Aa, ca, rfl, h5, h6⟩ := hx.sa
  exact put_bad ⟨hp.n, hp.r⟩ server Ao Af Aa co cf ca hc
/-- Put of the defaults. -/
theorem put0 (hG : GL W) : Calls Tryd.prog 8 #[.agg (pmRow dflt nilS nilS nilS), .bool false] W fun e w' => ∃ A c, e = .returned (.tuple #[.slice A 2 c, .int .i64 0]) ∧ (convert 22 9 (.slice A 2 c)).run Tryd.prog w' = .ok (.string ⟨#[15, 0]⟩) w' ∧ Below W.heap.size W w' := by
  have h := putOk (server := false) hG dflt_Ok ⟨sl_nil W, sl_nil W, sl_nil W⟩ dflt_check
  rw [dflt_put codec] at h
  refine h.mono ?_
  rintro e w' ⟨A, c, rfl, hs, hb⟩
  exact ⟨A, c, rfl, conv_of hs, hb⟩
/-- Reading what tells a record. -/
theorem readOk (hG : GL W) {v : Value} {xs : List Int} (hv : Sl W v xs) (hb : Bytes xs) (hl : xs.length ≤ big) (server : Bool) (hq : readB server xs = (0, q)) :
    Calls Tryd.prog 10 #[v, .bool server] W fun e w' => ∃ vo vf va, e = .returned (.tuple #[.agg (pmRow q vo vf va), .int .i64 0]) ∧ Got W.heap.size w' q vo vf va ∧ Below W.heap.size W w' := by
  refine (read_ok hG hv hb hl server).mono ?_
  rintro e w' ⟨hbl, code, q', h, ⟨h0, vo, vf, va, rfl, hg⟩ | ⟨h0, rfl⟩⟩
  · rw [hq] at h; injection h with e1 e2; subst e2; exact ⟨vo, vf, va, rfl, hg, hbl⟩
  · rw [hq] at h; injection h with e1 e2; omega
theorem readBad (hG : GL W) {v : Value} {xs : List Int} (hv : Sl W v xs) (hb : Bytes xs) (hl : xs.length ≤ big) (server : Bool) {code : Int} (hc : code ≠ 0) (hq : readB server xs = (code, q)) :
    Calls Tryd.prog 10 #[v, .bool server] W fun e w' => e = .returned (.tuple #[.agg (pmRow nul nilS nilS nilS), .int .i64 code]) ∧ Below W.heap.size W w' := by
  refine (read_ok hG hv hb hl server).mono ?_
  rintro e w' ⟨hbl, code', q', h, ⟨h0, vo, vf, va, rfl, hg⟩ | ⟨h0, rfl⟩⟩
  · rw [hq] at h; injection h with e1 e2; omega
  · rw [hq] at h; injection h with e1 e2; rw [← e1]; exact ⟨rfl, hbl⟩
theorem put_short {server : Bool} (hp : p.Ok) (hc : p.check server = true) : (put encV p server).length ≤ 2112 := by
  have := flatTo_len p server hc ⟨hp.n, hp.r⟩ 33
  rw [flatTo_end] at this
  omega
theorem readB_put {server : Bool} (hp : p.Ok) (hc : p.check server = true) : readB server (put encV p server) = (0, p) := read_put codec hp hc _ (by omega)
/-- A struct in its block, as a row. -/
theorem row_range (h : PmAt W g p vo vf va) : W.rangeAt g 0 (pmRow p vo vf va).toList := by
  intro j v hv
  rw [cell_of_row W g _ _ _ _ h]
  simpa using hv
/-- A load of a whole struct, in a region that draws and only reads, walked once. -/
theorem wpQuiet_row {ops : Array Oper} {rest : List Oper} {o : Oper} {a : Act} {w : World} {Q : Act → Prop} {N : Nat} (hw : Region.wanted o (yielded ops a.tmps) = true) (x : Operand) (ho : o.op = .load 25 x) (hd : o.dst = some N)
    (hx : a.eval x = .pointer (some ⟨g, 0, none⟩)) (hp : PmAt w g p vo vf va) (hs : Sz p)
    (h : wpQuiet Tryd.prog ops (fun w' => ∃ q : Regrown, w' = Sort.grow (redrawn w q.d) q.os) Q rest (a.put (some N) (.agg (pmRow p vo vf va)))) :
    wpQuiet Tryd.prog ops (fun w' => ∃ q : Regrown, w' = Sort.grow (redrawn w q.d) q.os) Q (o :: rest) a := by
  refine wpQuiet_step fun K hK => ?_
  rw [if_pos hw]
  refine ⟨.agg (pmRow p vo vf va), ?_, by rw [hd]; exact hK _ h⟩
  rintro w' ⟨⟨d, os⟩, rfl⟩
  have hp2 := hp.below (below_regrown w d os) hp.lt
  unfold Oper.quietAt execOp
  simp only [ho, hx, Instr.loadAt, Instr.sureAddr, Sem.run_bind, Sem.run_pure, Result.andThen_ok, run_loadVar_row _ g 25 25 _ (0, 0) _ hp2 Tryd.underlying25 rfl (by rw [row_size hs]; exact params_size)]
  exact ⟨rfl, rfl⟩
set_option maxRecDepth 100000 in
set_option maxHeartbeats 3200000 in
theorem back_walk (hG : GL W) (hp : p.Ok) (hx : Tx W p vo vf va) {v : Value} {xs : List Int} (hv : Sl W v xs) (hb : Bytes xs) (hl : xs.length ≤ big) (server : Bool) :
    Calls Tryd.prog 3 #[.agg (pmRow p vo vf va), v, .bool server] W fun e w' => e = .returned (.bool true) ∧ Below W.heap.size W w' := by
  have hs : Sz p := ⟨hp.n, hp.r⟩
  obtain ⟨Z, hZ⟩ : ∃ Z, W.alloc (.cells (pmRow p vo vf va) 25 (0, 0)) = Z := ⟨_, rfl⟩
  have hZb : Below W.heap.size W Z := by rw [← hZ]; exact Bl.alloc (Below.refl _ W) _
  have hZp : PmAt Z W.heap.size p vo vf va := by rw [← hZ]; exact heap_alloc_new W _
  have HW0 := Aside0.mk hZb
  have PA : Aside0 (∀ w', Below Z.heap.size Z w' → PmAt w' W.heap.size p vo vf va) := ⟨fun w' hb => hZp.below hb hZp.lt⟩
  have D0 : Aside0 (∀ w' : World, Calls Tryd.prog 9 #[] w' fun e w'' => e = .returned (.agg (pmRow dflt nilS nilS nilS)) ∧ Below w'.heap.size w' w'') := ⟨fun w' => default_s⟩
  have P0 : Aside0 (∀ w', Below Z.heap.size Z w' → Calls Tryd.prog 8 #[.agg (pmRow dflt nilS nilS nilS), .bool false] w' fun e w'' => ∃ A c, e = .returned (.tuple #[.slice A 2 c, .int .i64 0]) ∧ (convert 22 9 (.slice A 2 c)).run Tryd.prog w'' = .ok (.string ⟨#[15, 0]⟩) w'' ∧ Below w'.heap.size w' w'') := ⟨fun w' hb => put0 (gl_same hG (Sames.of_below (Bl.then hZb hb)))⟩
  have RF : Aside0 (∀ w' q vo vf va, Sz q → Tx w' q vo vf va → Calls Tryd.prog 11 #[.agg (pmRow q vo vf va)] w' fun e w'' => e = .returned (.agg (refRow q)) ∧ Below w'.heap.size w' w'') := ⟨fun w' q vo vf va hs ht => refs_s hs ht.so ht.sf ht.sa⟩
  have NQ := fun w => neq_ref p w
  go_enter Tryd.func3, Tryd.ntmps3
  go_upto_region 4 with (first
    | (go_at_call 9; (with_reducible refine (D0.out _).mono ?_); rintro e w1 ⟨rfl, hb⟩; have HW := Aside0.mk hb; clear hb)
    | (go_at_call 8; (with_reducible refine (P0.out _ HW.out).mono ?_); rintro e w2 ⟨A0, c0, rfl, hcv, hb⟩; have hw := Aside0.mk (Bl.then HW.out hb); clear HW hb; have HW := hw; clear hw))
  -- the tail
  have HS := Aside0.mk hs
  have HOK := Aside0.mk hp
  have TA : Aside0 (∀ w', Below Z.heap.size Z w' → Tx w' p vo vf va) := ⟨fun w' hb => hx.below (Bl.then hZb hb)⟩
  have VA : Aside0 (∀ w', Below Z.heap.size Z w' → Sl w' v xs) := ⟨fun w' hb => hv.below (Bl.then hZb hb)⟩
  have GA : Aside0 (∀ w', Below Z.heap.size Z w' → GL w') := ⟨fun w' hb => gl_same hG (Sames.of_below (Bl.then hZb hb))⟩
  have HBY := Aside0.mk hb
  have HL := Aside0.mk hl
  clear hs hp hx hv hb hl hG hZ hZb hZp hcv P0 D0
  cases hck : p.check server with
  | true =>
    have HCK := Aside0.mk hck
    clear hck
    go_upto_region 6 with (first
      | ((with_reducible refine gate_ld (t := 25) rfl ?_); refine wpList_load_row rfl 25 (.tmp 3) rfl W.heap.size rfl 25 _ (0, 0) _ (PA.out _ HW.out) Tryd.underlying25 rfl (by rw [row_size HS.out]; exact params_size) ?_)
      | (go_at_call 8; (with_reducible refine (putOk (GA.out _ HW.out) HOK.out (TA.out _ HW.out) HCK.out).mono ?_); rintro e w3 ⟨A1, c1, rfl, hs1, hb⟩; have HS1 := Aside0.mk hs1; have hw := Aside0.mk (Bl.then HW.out hb); clear HW hb; have HW := hw; clear hw))
    go_upto_region 7 with (first
      | (go_at_call 10; (with_reducible refine (readOk (GA.out _ HW.out) HS1.out (put_bytes codec HOK.out HCK.out) (Nat.le_trans (put_short HOK.out HCK.out) (by decide)) server (readB_put HOK.out HCK.out)).mono ?_); rintro e w4 ⟨uo, uf, ua, rfl, hgt, hb⟩; have HT1 := Aside0.mk (hgt.tx); have hw := Aside0.mk (Bl.then HW.out hb); clear HW hb; have HW := hw; clear hw; clear hgt)
      | ((with_reducible refine gate_st (t := 25) (p := .tmp 11) (v := .tmp 39) rfl ?_); refine wpList_store_row rfl 25 (.tmp 11) (.tmp 39) rfl w4.heap.size (pmRow p uo uf ua) rfl rfl 25 _ (heap_alloc_new _ _) (by rw [row_size HS.out]; exact params_size) (by rw [row_size HS.out]; rfl) (row_one HS.out HT1.out.one.1 HT1.out.one.2.1 HT1.out.one.2.2) ?_; rw [World.setRow_alloc_new]))
    have HA1 : Aside0 (PmAt (w4.alloc (.cells (pmRow p uo uf ua) 25 (0, 0))) w4.heap.size p uo uf ua) := ⟨heap_alloc_new w4 _⟩
    have hal := Bl.alloc (Below.refl _ w4) (.cells (pmRow p uo uf ua) 25 (0, 0))
    have HA2 := Aside0.mk ((PA.out _ HW.out).below hal (PA.out _ HW.out).lt)
    have HT2 := Aside0.mk ((TA.out _ HW.out).below hal)
    have ht := Aside0.mk (HT1.out.below hal)
    have hw := Aside0.mk (Bl.then HW.out hal)
    clear HT1 HW hal HS1
    have HT1 := ht
    have HW := hw
    clear ht hw
    go_upto_region 7 with fail
    refine wp_region_quiet_below (by kernel_rfl) (by kernel_rfl) ?_
    repeat (first
      | (refine wpQuiet_row (N := 44) (by kernel_rfl) (.tmp 11) rfl rfl rfl HA1.out HS.out ?_; simp only [Act.put, List.setIfInBounds_toArray, List.set_cons_zero, List.set_cons_succ])
      | (refine wpQuiet_row (N := 46) (by kernel_rfl) (.tmp 3) rfl rfl rfl HA2.out HS.out ?_; simp only [Act.put, List.setIfInBounds_toArray, List.set_cons_zero, List.set_cons_succ])
      | (go_big_quiet_step (first
        | (go_at_call 11; exact Calls.regrown_of (RF.out _ _ _ _ _ HS.out (HT1.out.below (below_regrown _ _ _))))
        | (go_at_call 11; exact Calls.regrown_of (RF.out _ _ _ _ _ HS.out (HT2.out.below (below_regrown _ _ _)))))))
    refine wpQuiet_nil ?_
    intro _ hw'
    obtain ⟨⟨dq, osq⟩, hw''⟩ := hw'
    subst hw''
    have hw := Aside0.mk (Bl.then HW.out (below_regrown _ dq osq))
    clear HW HA1 HA2 HT1 HT2
    have HW := hw
    clear hw
    obtain ⟨code, q, hcq⟩ : ∃ code q, readB server xs = (code, q) := ⟨_, _, rfl⟩
    have HCQ := Aside0.mk hcq
    clear hcq
    by_cases hcode : code = 0
    · subst hcode
      have HQ : Aside0 (q.Ok ∧ q.check server = true) := ⟨read_good codec server _ xs q HBY.out (Nat.lt_succ_self _) HCQ.out⟩
      have HQS : Aside0 (Sz q) := ⟨HQ.out.1.n, HQ.out.1.r⟩
      have EQ := fun w => eql_ref q w
      go_upto_region 12 with (first
        | (go_at_call 10; (with_reducible refine (readOk (GA.out _ HW.out) (VA.out _ HW.out) HBY.out HL.out server HCQ.out).mono ?_); rintro e w14 ⟨qo, qf, qa, rfl, hgt, hb⟩; have HT1 := Aside0.mk (hgt.tx); have hw := Aside0.mk (Bl.then HW.out hb); clear HW hb; have HW := hw; clear hw; clear hgt)
        | ((with_reducible refine gate_st (t := 25) (p := .tmp 13) (v := .tmp 54) rfl ?_); refine wpList_store_row rfl 25 (.tmp 13) (.tmp 54) rfl w14.heap.size (pmRow q qo qf qa) rfl rfl 25 _ (heap_alloc_new _ _) (by rw [row_size HQS.out]; exact params_size) (by rw [row_size HQS.out]; rfl) (row_one HQS.out HT1.out.one.1 HT1.out.one.2.1 HT1.out.one.2.2) ?_; rw [World.setRow_alloc_new]))
      have HA1 : Aside0 (PmAt (w14.alloc (.cells (pmRow q qo qf qa) 25 (0, 0))) w14.heap.size q qo qf qa) := ⟨heap_alloc_new w14 _⟩
      have hal := Bl.alloc (Below.refl _ w14) (.cells (pmRow q qo qf qa) 25 (0, 0))
      have ht := Aside0.mk (HT1.out.below hal)
      have hw := Aside0.mk (Bl.then HW.out hal)
      clear HT1 HW hal
      have HT1 := ht
      have HW := hw
      clear ht hw
      go_upto_region 14 with (first
        | ((with_reducible refine gate_ld (t := 25) rfl ?_); refine wpList_load_row rfl 25 (.tmp 13) rfl w14.heap.size rfl 25 _ (0, 0) _ (HA1.out) Tryd.underlying25 rfl (by rw [row_size HQS.out]; exact params_size) ?_)
        | (go_at_call 8; (with_reducible refine (putOk (GA.out _ HW.out) HQ.out.1 HT1.out HQ.out.2).mono ?_); rintro e w15 ⟨A2, c2, rfl, hs2, hb⟩; have HS2 := Aside0.mk hs2; have ha1 := Aside0.mk (HA1.out.below hb HA1.out.lt); have ht1 := Aside0.mk (HT1.out.below hb); have hw := Aside0.mk (Bl.then HW.out hb); clear HW hb; have HW := hw; clear hw; clear HA1 HT1; have HA1 := ha1; have HT1 := ht1; clear ha1 ht1)
        | (go_at_call 10; (with_reducible refine (readOk (GA.out _ HW.out) HS2.out (put_bytes codec HQ.out.1 HQ.out.2) (Nat.le_trans (put_short HQ.out.1 HQ.out.2) (by decide)) server (readB_put HQ.out.1 HQ.out.2)).mono ?_); rintro e w16 ⟨ro, rf, ra, rfl, hgt, hb⟩; have HT2 := Aside0.mk (hgt.tx); have ha1 := Aside0.mk (HA1.out.below hb HA1.out.lt); have ht1 := Aside0.mk (HT1.out.below hb); have hw := Aside0.mk (Bl.then HW.out hb); clear HW hb; have HW := hw; clear hw; clear hgt HA1 HT1; have HA1 := ha1; have HT1 := ht1; clear ha1 ht1)
        | ((with_reducible refine gate_st (t := 25) (p := .tmp 14) (v := .tmp 73) rfl ?_); refine wpList_store_row rfl 25 (.tmp 14) (.tmp 73) rfl w16.heap.size (pmRow q ro rf ra) rfl rfl 25 _ (heap_alloc_new _ _) (by rw [row_size HQS.out]; exact params_size) (by rw [row_size HQS.out]; rfl) (row_one HQS.out HT2.out.one.1 HT2.out.one.2.1 HT2.out.one.2.2) ?_; rw [World.setRow_alloc_new]))
      have HA2 : Aside0 (PmAt (w16.alloc (.cells (pmRow q ro rf ra) 25 (0, 0))) w16.heap.size q ro rf ra) := ⟨heap_alloc_new w16 _⟩
      have hal := Bl.alloc (Below.refl _ w16) (.cells (pmRow q ro rf ra) 25 (0, 0))
      have ha1 := Aside0.mk (HA1.out.below hal HA1.out.lt)
      have ht1 := Aside0.mk (HT1.out.below hal)
      have ht2 := Aside0.mk (HT2.out.below hal)
      have hw := Aside0.mk (Bl.then HW.out hal)
      clear HA1 HT1 HT2 HW hal
      have HA1 := ha1
      have HT1 := ht1
      have HT2 := ht2
      have HW := hw
      clear ha1 ht1 ht2 hw
      go_upto_region 14 with fail
      refine wp_region_quiet_below (by kernel_rfl) (by kernel_rfl) ?_
      repeat (first
        | (refine wpQuiet_row (N := 84) (by kernel_rfl) (.tmp 13) rfl rfl rfl HA1.out HQS.out ?_; simp only [Act.put, List.setIfInBounds_toArray, List.set_cons_zero, List.set_cons_succ])
        | (refine wpQuiet_row (N := 82) (by kernel_rfl) (.tmp 14) rfl rfl rfl HA2.out HQS.out ?_; simp only [Act.put, List.setIfInBounds_toArray, List.set_cons_zero, List.set_cons_succ])
        | (go_big_quiet_step (first
          | (go_at_call 11; exact Calls.regrown_of (RF.out _ _ _ _ _ HQS.out (HT1.out.below (below_regrown _ _ _))))
          | (go_at_call 11; exact Calls.regrown_of (RF.out _ _ _ _ _ HQS.out (HT2.out.below (below_regrown _ _ _)))))))
      refine wpQuiet_nil ?_
      intro _ hw'
      obtain ⟨⟨dq, osq⟩, hw''⟩ := hw'
      subst hw''
      have hw := Aside0.mk (Bl.then HW.out (below_regrown _ dq osq))
      go_wp2_with fail
      go_ret
      exact ⟨rfl, Bl.then HW0.out hw.out⟩
    · have EN := fun w => eql_ref nul w
      have hcb : (code != 0) = true := by simp [hcode]
      have HC := Aside0.mk hcode
      clear hcode
      have RZ : Aside0 (∀ w', Calls Tryd.prog 11 #[.agg zero34] w' fun e w'' => e = .returned (.agg (refRow nul)) ∧ Below w'.heap.size w' w'') := ⟨fun w' => by rw [zero34_nul]; exact RF.out w' nul nilS nilS nilS nul_sz ⟨sl_nil _, sl_nil _, sl_nil _⟩⟩
      go_wp2_with (first
        | (go_at_call 10; (with_reducible refine (readBad (GA.out _ HW.out) (VA.out _ HW.out) HBY.out HL.out server HC.out HCQ.out).mono ?_); rintro e w14 ⟨rfl, hb⟩; have hw := Aside0.mk (Bl.then HW.out hb); clear HW hb; have HW := hw; clear hw; rw [← zero34_nul]; have HA1 : Aside0 (PmAt (w14.alloc (.cells zero34 25 (0, 0))) w14.heap.size nul nilS nilS nilS) := ⟨by rw [zero34_nul]; exact heap_alloc_new w14 _⟩; have hw := Aside0.mk (Bl.alloc HW.out (.cells zero34 25 (0, 0))); clear HW; have HW := hw; clear hw)
        | ((with_reducible refine gate_st (t := 25) (p := .tmp 13) (v := .tmp 54) rfl ?_); refine wpList_store_row rfl 25 (.tmp 13) (.tmp 54) rfl w14.heap.size zero34 rfl rfl 25 _ (heap_alloc_new _ _) params_size rfl (by kernel_rfl) ?_; rw [World.setRow_alloc_new])
        | ((with_reducible refine gate_ld (t := 25) rfl ?_); refine wpList_load_row rfl 25 (.tmp 13) rfl w14.heap.size rfl 25 zero34 (0, 0) _ (by rw [zero34_nul]; exact HA1.out) Tryd.underlying25 rfl params_size ?_)
        | (go_at_call 11; (with_reducible refine (RZ.out _).mono ?_); rintro e w19 ⟨rfl, hb⟩; have hw := Aside0.mk (Bl.then HW.out hb); clear HW hb; have HW := hw; clear hw))
      go_ret
      exact ⟨rfl, Bl.then HW0.out HW.out⟩
  | false =>
    have HCK := Aside0.mk hck
    clear hck
    go_upto_region 9 with (first
      | ((with_reducible refine gate_ld (t := 25) rfl ?_); refine wpList_load_row rfl 25 (.tmp 3) rfl W.heap.size rfl 25 _ (0, 0) _ (PA.out _ HW.out) Tryd.underlying25 rfl (by rw [row_size HS.out]; exact params_size) ?_)
      | (go_at_call 8; (with_reducible refine (putBad HOK.out (TA.out _ HW.out) HCK.out).mono ?_); rintro e w3 ⟨rfl, hb⟩; have hw := Aside0.mk (Bl.then HW.out hb); clear HW hb; have HW := hw; clear hw))
    obtain ⟨code, q, hcq⟩ : ∃ code q, readB server xs = (code, q) := ⟨_, _, rfl⟩
    have HCQ := Aside0.mk hcq
    clear hcq
    by_cases hcode : code = 0
    · subst hcode
      have HQ : Aside0 (q.Ok ∧ q.check server = true) := ⟨read_good codec server _ xs q HBY.out (Nat.lt_succ_self _) HCQ.out⟩
      have HQS : Aside0 (Sz q) := ⟨HQ.out.1.n, HQ.out.1.r⟩
      have EQ := fun w => eql_ref q w
      go_upto_region 12 with (first
        | (go_at_call 10; (with_reducible refine (readOk (GA.out _ HW.out) (VA.out _ HW.out) HBY.out HL.out server HCQ.out).mono ?_); rintro e w14 ⟨qo, qf, qa, rfl, hgt, hb⟩; have HT1 := Aside0.mk (hgt.tx); have hw := Aside0.mk (Bl.then HW.out hb); clear HW hb; have HW := hw; clear hw; clear hgt)
        | ((with_reducible refine gate_st (t := 25) (p := .tmp 13) (v := .tmp 54) rfl ?_); refine wpList_store_row rfl 25 (.tmp 13) (.tmp 54) rfl w14.heap.size (pmRow q qo qf qa) rfl rfl 25 _ (heap_alloc_new _ _) (by rw [row_size HQS.out]; exact params_size) (by rw [row_size HQS.out]; rfl) (row_one HQS.out HT1.out.one.1 HT1.out.one.2.1 HT1.out.one.2.2) ?_; rw [World.setRow_alloc_new]))
      have HA1 : Aside0 (PmAt (w14.alloc (.cells (pmRow q qo qf qa) 25 (0, 0))) w14.heap.size q qo qf qa) := ⟨heap_alloc_new w14 _⟩
      have hal := Bl.alloc (Below.refl _ w14) (.cells (pmRow q qo qf qa) 25 (0, 0))
      have ht := Aside0.mk (HT1.out.below hal)
      have hw := Aside0.mk (Bl.then HW.out hal)
      clear HT1 HW hal
      have HT1 := ht
      have HW := hw
      clear ht hw
      go_upto_region 14 with (first
        | ((with_reducible refine gate_ld (t := 25) rfl ?_); refine wpList_load_row rfl 25 (.tmp 13) rfl w14.heap.size rfl 25 _ (0, 0) _ (HA1.out) Tryd.underlying25 rfl (by rw [row_size HQS.out]; exact params_size) ?_)
        | (go_at_call 8; (with_reducible refine (putOk (GA.out _ HW.out) HQ.out.1 HT1.out HQ.out.2).mono ?_); rintro e w15 ⟨A2, c2, rfl, hs2, hb⟩; have HS2 := Aside0.mk hs2; have ha1 := Aside0.mk (HA1.out.below hb HA1.out.lt); have ht1 := Aside0.mk (HT1.out.below hb); have hw := Aside0.mk (Bl.then HW.out hb); clear HW hb; have HW := hw; clear hw; clear HA1 HT1; have HA1 := ha1; have HT1 := ht1; clear ha1 ht1)
        | (go_at_call 10; (with_reducible refine (readOk (GA.out _ HW.out) HS2.out (put_bytes codec HQ.out.1 HQ.out.2) (Nat.le_trans (put_short HQ.out.1 HQ.out.2) (by decide)) server (readB_put HQ.out.1 HQ.out.2)).mono ?_); rintro e w16 ⟨ro, rf, ra, rfl, hgt, hb⟩; have HT2 := Aside0.mk (hgt.tx); have ha1 := Aside0.mk (HA1.out.below hb HA1.out.lt); have ht1 := Aside0.mk (HT1.out.below hb); have hw := Aside0.mk (Bl.then HW.out hb); clear HW hb; have HW := hw; clear hw; clear hgt HA1 HT1; have HA1 := ha1; have HT1 := ht1; clear ha1 ht1)
        | ((with_reducible refine gate_st (t := 25) (p := .tmp 14) (v := .tmp 73) rfl ?_); refine wpList_store_row rfl 25 (.tmp 14) (.tmp 73) rfl w16.heap.size (pmRow q ro rf ra) rfl rfl 25 _ (heap_alloc_new _ _) (by rw [row_size HQS.out]; exact params_size) (by rw [row_size HQS.out]; rfl) (row_one HQS.out HT2.out.one.1 HT2.out.one.2.1 HT2.out.one.2.2) ?_; rw [World.setRow_alloc_new]))
      have HA2 : Aside0 (PmAt (w16.alloc (.cells (pmRow q ro rf ra) 25 (0, 0))) w16.heap.size q ro rf ra) := ⟨heap_alloc_new w16 _⟩
      have hal := Bl.alloc (Below.refl _ w16) (.cells (pmRow q ro rf ra) 25 (0, 0))
      have ha1 := Aside0.mk (HA1.out.below hal HA1.out.lt)
      have ht1 := Aside0.mk (HT1.out.below hal)
      have ht2 := Aside0.mk (HT2.out.below hal)
      have hw := Aside0.mk (Bl.then HW.out hal)
      clear HA1 HT1 HT2 HW hal
      have HA1 := ha1
      have HT1 := ht1
      have HT2 := ht2
      have HW := hw
      clear ha1 ht1 ht2 hw
      go_upto_region 14 with fail
      refine wp_region_quiet_below (by kernel_rfl) (by kernel_rfl) ?_
      repeat (first
        | (refine wpQuiet_row (N := 84) (by kernel_rfl) (.tmp 13) rfl rfl rfl HA1.out HQS.out ?_; simp only [Act.put, List.setIfInBounds_toArray, List.set_cons_zero, List.set_cons_succ])
        | (refine wpQuiet_row (N := 82) (by kernel_rfl) (.tmp 14) rfl rfl rfl HA2.out HQS.out ?_; simp only [Act.put, List.setIfInBounds_toArray, List.set_cons_zero, List.set_cons_succ])
        | (go_big_quiet_step (first
          | (go_at_call 11; exact Calls.regrown_of (RF.out _ _ _ _ _ HQS.out (HT1.out.below (below_regrown _ _ _))))
          | (go_at_call 11; exact Calls.regrown_of (RF.out _ _ _ _ _ HQS.out (HT2.out.below (below_regrown _ _ _)))))))
      refine wpQuiet_nil ?_
      intro _ hw'
      obtain ⟨⟨dq, osq⟩, hw''⟩ := hw'
      subst hw''
      have hw := Aside0.mk (Bl.then HW.out (below_regrown _ dq osq))
      go_wp2_with fail
      go_ret
      exact ⟨rfl, Bl.then HW0.out hw.out⟩
    · have EN := fun w => eql_ref nul w
      have hcb : (code != 0) = true := by simp [hcode]
      have HC := Aside0.mk hcode
      clear hcode
      have RZ : Aside0 (∀ w', Calls Tryd.prog 11 #[.agg zero34] w' fun e w'' => e = .returned (.agg (refRow nul)) ∧ Below w'.heap.size w' w'') := ⟨fun w' => by rw [zero34_nul]; exact RF.out w' nul nilS nilS nilS nul_sz ⟨sl_nil _, sl_nil _, sl_nil _⟩⟩
      go_wp2_with (first
        | (go_at_call 10; (with_reducible refine (readBad (GA.out _ HW.out) (VA.out _ HW.out) HBY.out HL.out server HC.out HCQ.out).mono ?_); rintro e w14 ⟨rfl, hb⟩; have hw := Aside0.mk (Bl.then HW.out hb); clear HW hb; have HW := hw; clear hw; rw [← zero34_nul]; have HA1 : Aside0 (PmAt (w14.alloc (.cells zero34 25 (0, 0))) w14.heap.size nul nilS nilS nilS) := ⟨by rw [zero34_nul]; exact heap_alloc_new w14 _⟩; have hw := Aside0.mk (Bl.alloc HW.out (.cells zero34 25 (0, 0))); clear HW; have HW := hw; clear hw)
        | ((with_reducible refine gate_st (t := 25) (p := .tmp 13) (v := .tmp 54) rfl ?_); refine wpList_store_row rfl 25 (.tmp 13) (.tmp 54) rfl w14.heap.size zero34 rfl rfl 25 _ (heap_alloc_new _ _) params_size rfl (by kernel_rfl) ?_; rw [World.setRow_alloc_new])
        | ((with_reducible refine gate_ld (t := 25) rfl ?_); refine wpList_load_row rfl 25 (.tmp 13) rfl w14.heap.size rfl 25 zero34 (0, 0) _ (by rw [zero34_nul]; exact HA1.out) Tryd.underlying25 rfl params_size ?_)
        | (go_at_call 11; (with_reducible refine (RZ.out _).mono ?_); rintro e w19 ⟨rfl, hb⟩; have hw := Aside0.mk (Bl.then HW.out hb); clear HW hb; have HW := hw; clear hw))
      go_ret
      exact ⟨rfl, Bl.then HW0.out HW.out⟩
end Go.Proofs.YtcidijmdndcdlaaDoor.Pr
