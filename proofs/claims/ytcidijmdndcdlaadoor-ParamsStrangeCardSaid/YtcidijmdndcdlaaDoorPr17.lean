/- Parameters (layer 3): the law ParamsTurned; no condition. -/
import Derived.Test.YtcidijmdndcdlaaDoorPr16
import Derived.Deep.DeepCutAuto
set_option linter.unusedVariables false
set_option linter.unusedSimpArgs false
namespace Go.Proofs.YtcidijmdndcdlaaDoor.Pr
open Go Go.RowKit Go.Maps Go.Proofs.YtcidijmdndcdlaaDoor.Pm Go.Proofs.YtcidijmdndcdlaaDoor.Rm Go.Proofs.YtcidijmdndcdlaaDoor.OctM
open Go.Proofs.YtcidijmdndcdlaaDoorW.PrintWords Go.Proofs.YtcidijmdndcdlaaDoorW.PrintLast Go.Proofs.YtcidijmdndcdlaaDoorW.PrintMore
variable {W W' W0 Z : World} {g b B m n : Nat} {p q : Pm} {vo vf va : Value} {kv : KV} {came : List Int}
/-- A piece of what is put: its length stands in its second byte. -/
theorem lay_small {e : Ent} (h0 : 0 ≤ e.1) (h1 : e.1 < 33) (hl : e.2.length ≤ 20) : layE encV e = e.1 :: (e.2.length : Int) :: e.2 := by
  unfold layE
  rw [codec.small e.1 h0 (by omega), codec.small (e.2.length : Int) (by omega) (by omega)]
  rfl
theorem entry_small {server : Bool} (hp : p.Ok) (hc : p.check server = true) : ∀ e ∈ entries encV p server, layE encV e = e.1 :: (e.2.length : Int) :: e.2 ∧ e.2.length ≤ 20 := by
  rintro ⟨id, v⟩ he
  obtain ⟨h0, h1, hs⟩ := entries_mem.1 he
  have hl := said_len ⟨hp.n, hp.r⟩ hc hs
  exact ⟨lay_small h0 h1 hl, hl⟩
theorem flat_one (e : Ent) : flat encV [e] = layE encV e := by simp [flat]
theorem R_past {w w1 : World} {v : Value} {xs : List Int} {X : Obj} {row : Option Nat} (h : (Kd.int .u8).R 5 w B (fun _ => True) v xs) (hg : (w.alloc X).grownBy w1 row) (hrow : row = some w.heap.size) : (Kd.int .u8).R 5 w1 B (fun _ => True) v xs :=
  Kd.R_mono (Kd.R_step (Kd.R_bound h) (fun k hk hlt => by
    have h1 := hg.block k (by rw [alloc_size]; omega) (by rw [hrow]; intro e; injection e with e; omega)
    rw [h1, alloc_old _ _ _ hlt])) (fun _ _ => trivial)
theorem flat_rev_len : ∀ es : List Ent, (flat encV es.reverse).length = (flat encV es).length
  | [] => rfl
  | e :: es => by
    rw [List.reverse_cons, flat_append, List.length_append, flat_rev_len es, show e :: es = [e] ++ es from rfl, flat_append, List.length_append]; omega
theorem flat_rev_bytes {server : Bool} (hp : p.Ok) (hc : p.check server = true) {es : List Ent} (h : entries encV p server = es) : Bytes (flat encV es.reverse) :=
  flat_bytes codec _ (fun e he => by
    rw [List.mem_reverse, ← h] at he
    obtain ⟨_, b, c, d, f, _⟩ := entries_all codec hp hc e he
    exact ⟨b, c, d, f⟩)
theorem readB_turned {server : Bool} (hp : p.Ok) (hc : p.check server = true) (es : List Ent) (hperm : (entries encV p server).Perm es) : readB server (flat encV es) = (0, p) := read_turned codec hp hc es hperm _ (by omega)
theorem own_empty {w : World} {g : Nat} (hg : w.heap[g]? = some (.cells #[] 5 (0, 0))) (hb : B ≤ g) : w.ownsRow B 5 1 (.slice (some ⟨g, 0, none⟩) 0 0) ([] : List Int).length (encs (Value.int .u8) ([] : List Int)) :=
  ⟨rfl, .inr ⟨g, 0, #[], rfl, hb, hg, Nat.le_refl _, by unfold maxLen; decide, rfl, rfl⟩⟩
set_option maxRecDepth 100000 in
set_option maxHeartbeats 3200000 in
theorem turned_walk (hG : GL W) (hp : p.Ok) (hx : Tx W p vo vf va) (server : Bool) :
    Calls Tryd.prog 5 #[.agg (pmRow p vo vf va), .bool server] W fun e w' => e = .returned (.bool true) ∧ Below W.heap.size W w' := by
  have hs : Sz p := ⟨hp.n, hp.r⟩
  obtain ⟨Z, hZ⟩ : ∃ Z, W.alloc (.cells (pmRow p vo vf va) 25 (0, 0)) = Z := ⟨_, rfl⟩
  have hZb : Below W.heap.size W Z := by rw [← hZ]; exact Bl.alloc (Below.refl _ W) _
  have hZp : PmAt Z W.heap.size p vo vf va := by rw [← hZ]; exact heap_alloc_new W _
  have HW0 := Aside0.mk hZb
  have PA : Aside0 (∀ w', Below Z.heap.size Z w' → PmAt w' W.heap.size p vo vf va) := ⟨fun w' hb => hZp.below hb hZp.lt⟩
  have D0 : Aside0 (∀ w' : World, Calls Tryd.prog 9 #[] w' fun e w'' => e = .returned (.agg (pmRow dflt nilS nilS nilS)) ∧ Below w'.heap.size w' w'') := ⟨fun w' => default_s⟩
  have P0 : Aside0 (∀ w', Below Z.heap.size Z w' → Calls Tryd.prog 8 #[.agg (pmRow dflt nilS nilS nilS), .bool false] w' fun e w'' => ∃ A c, e = .returned (.tuple #[.slice A 2 c, .int .i64 0]) ∧ (convert 22 9 (.slice A 2 c)).run Tryd.prog w'' = .ok (.string ⟨#[15, 0]⟩) w'' ∧ Below w'.heap.size w' w'') := ⟨fun w' hb => put0 (gl_same hG (Sames.of_below (Bl.then hZb hb)))⟩
  have RF : Aside0 (∀ w' q vo vf va, Sz q → Tx w' q vo vf va → Calls Tryd.prog 11 #[.agg (pmRow q vo vf va)] w' fun e w'' => e = .returned (.agg (refRow q)) ∧ Below w'.heap.size w' w'') := ⟨fun w' q vo vf va hs ht => refs_s hs ht.so ht.sf ht.sa⟩
  have EQ := fun w => eql_ref p w
  have HS := Aside0.mk hs
  have HOK := Aside0.mk hp
  have TA : Aside0 (∀ w', Below Z.heap.size Z w' → Tx w' p vo vf va) := ⟨fun w' hb => hx.below (Bl.then hZb hb)⟩
  have GA : Aside0 (∀ w', Below Z.heap.size Z w' → GL w') := ⟨fun w' hb => gl_same hG (Sames.of_below (Bl.then hZb hb))⟩
  have HW : Aside0 (Below Z.heap.size Z Z) := ⟨Below.refl _ _⟩
  clear hs hp hx hG hZb hZp
  go_enter Tryd.func5, Tryd.ntmps5
  go_upto_region 1 with fail
  clear hZ
  cases hck : p.check server with
  | false =>
    have HCK := Aside0.mk hck
    clear hck
    go_wp2_with (first
      | ((with_reducible refine gate_ld (t := 25) rfl ?_); refine wpList_load_row rfl 25 (.tmp 2) rfl W.heap.size rfl 25 _ (0, 0) _ (PA.out _ HW.out) Tryd.underlying25 rfl (by rw [row_size HS.out]; exact params_size) ?_)
      | (go_at_call 9; (with_reducible refine (D0.out _).mono ?_); rintro e w1 ⟨rfl, hb⟩; have hw := Aside0.mk (Bl.then HW.out hb); clear HW hb; have HW := hw; clear hw)
      | (go_at_call 8; (with_reducible refine (P0.out _ HW.out).mono ?_); rintro e w2 ⟨A0, c0, rfl, hcv, hb⟩; have hw := Aside0.mk (Bl.then HW.out hb); clear HW hb; have HW := hw; clear hw)
      | (go_at_call 8; (with_reducible refine (putBad HOK.out (TA.out _ HW.out) HCK.out).mono ?_); rintro e w3 ⟨rfl, hb⟩; have hw := Aside0.mk (Bl.then HW.out hb); clear HW hb; have HW := hw; clear hw))
    go_ret
    exact ⟨rfl, Bl.then HW0.out HW.out⟩
  | true =>
    have HCK := Aside0.mk hck
    clear hck
    go_upto_region 7 with (first
      | ((with_reducible refine gate_ld (t := 25) rfl ?_); refine wpList_load_row rfl 25 (.tmp 2) rfl W.heap.size rfl 25 _ (0, 0) _ (PA.out _ HW.out) Tryd.underlying25 rfl (by rw [row_size HS.out]; exact params_size) ?_)
      | (go_at_call 9; (with_reducible refine (D0.out _).mono ?_); rintro e w1 ⟨rfl, hb⟩; have hs1 := Aside0.mk (HS1.out.below hb); have hw := Aside0.mk (Bl.then HW.out hb); clear HW hb; have HW := hw; clear hw; clear HS1; have HS1 := hs1; clear hs1)
      | (go_at_call 8; (with_reducible refine (P0.out _ HW.out).mono ?_); rintro e Y ⟨A0, c0, rfl, hcv, hb⟩; have hs1 := Aside0.mk (HS1.out.below hb); have hw := Aside0.mk (Bl.then HW.out hb); clear HW hb; have HW := hw; clear hw; clear HS1; have HS1 := hs1; clear hs1)
      | (go_at_call 8; (with_reducible refine (putOk (GA.out _ HW.out) HOK.out (TA.out _ HW.out) HCK.out).mono ?_); rintro e w3 ⟨A1, c1, rfl, hs1, hb⟩; have HS1 := Aside0.mk hs1; have hw := Aside0.mk (Bl.then HW.out hb); clear HW hb; have HW := hw; clear hw))
    obtain ⟨es, hes⟩ : ∃ es, entries encV p server = es := ⟨_, rfl⟩
    have hput : put encV p server = flat encV es := by rw [← hes]; rfl
    have hN := put_short HOK.out HCK.out
    rw [hput] at HS1 hN ⊢
    have HES := Aside0.mk hes
    have HSM : Aside0 (∀ e ∈ es, layE encV e = e.1 :: (e.2.length : Int) :: e.2 ∧ e.2.length ≤ 20) := ⟨by rw [← hes]; exact entry_small HOK.out HCK.out⟩
    have hpos : 0 < (flat encV es).length := by
      have h15 : (15, p.first) ∈ es := by rw [← hes]; exact entries_mem.2 ⟨by decide, by decide, rfl⟩
      have := flat_len codec es (fun e he => by
        rw [← hes] at he
        obtain ⟨_, b, c, _⟩ := entries_all codec HOK.out HCK.out e he
        exact ⟨b, c⟩)
      have := List.length_pos_of_mem h15
      omega
    obtain ⟨A1', c1', hA1', hc1, hC1⟩ := HS1.out
    injection hA1' with hA1' _ hc1'
    subst hA1'; subst hc1'
    obtain ⟨ad, rfl, hq⟩ := (Kd.reads_of_C (d := (0 : Int)) hC1).2.2 hpos
    have HQ := Aside0.mk (And.intro hc1 hC1)
    clear hes hput hcv HS1 hc1 hC1 hq
    obtain ⟨B0, hB0⟩ : ∃ L, flat encV es = L := ⟨_, rfl⟩
    have HBE := Aside0.mk hB0
    rw [hB0] at HQ hN hpos ⊢
    clear hB0 hs1
    have HWY := Aside0.mk (Bl.then HW0.out HW.out)
    have PY : Aside0 (∀ w', Below Y.heap.size Y w' → PmAt w' W.heap.size p vo vf va ∧ Tx w' p vo vf va ∧ GL w') := ⟨fun w' hb => ⟨PA.out _ (Bl.then HW.out hb), TA.out _ (Bl.then HW.out hb), GA.out _ (Bl.then HW.out hb)⟩⟩
    clear PA TA GA D0 P0 HW
    go_upto_region 9 with fail
    go_loopw [9, 10] (fun tv iv W' => ∃ es1 es2 : List Ent, es = es1 ++ es2 ∧ iv = .int .i64 ((flat encV es1).length : Nat) ∧ (Kd.int .u8).R 5 W' Y.heap.size (fun _ => True) tv (flat encV es1.reverse) ∧ Below Y.heap.size Y W') (fun _ iv _ => B0.length - (intOf iv).toNat)
    case atStart => exact ⟨[], es, rfl, rfl, Kd.R_nil _ _ _ _ _, Below.refl _ _⟩
    case round =>
      obtain ⟨es1, es2, hsp, rfl, hR, hBl⟩ := hrel
      have HR := Aside0.mk hR
      have HBl := Aside0.mk hBl
      clear hR hBl
      cases es2 with
      | nil =>
        rw [List.append_nil] at hsp
        subst hsp
        have hle : (flat encV es).length = B0.length := by rw [HBE.out]
        rw [hle]
        obtain ⟨At, ct, rfl, hct, hCt⟩ := sl_of_R HR.out
        have hperm := readB_turned HOK.out HCK.out es.reverse (by rw [HES.out]; exact (List.reverse_perm es).symm) (server := server)
        have hlen2 : (flat encV es.reverse).length = B0.length := by rw [flat_rev_len, HBE.out]
        have hbt : Bytes (flat encV es.reverse) := flat_rev_bytes HOK.out HCK.out HES.out
        have HT0 := Aside0.mk (And.intro hperm (And.intro hbt hlen2))
        have HSt : Aside0 (Sl wr (.slice At (flat encV es.reverse).length ct) (flat encV es.reverse)) := ⟨At, ct, rfl, hct, hCt⟩
        have HW := HBl
        clear hct hCt hperm hbt hlen2 hle HR HBl
        go_upto_region 14 with (first
          | (go_at_call 10; (with_reducible refine (readOk (PY.out _ HW.out).2.2 HSt.out HT0.out.2.1 (by rw [HT0.out.2.2]; unfold big; omega) server HT0.out.1).mono ?_); rintro e w4 ⟨uo, uf, ua, rfl, hgt, hb⟩; have HT1 := Aside0.mk (hgt.tx); have hw := Aside0.mk (Bl.then HW.out hb); clear HW hb; have HW := hw; clear hw; clear hgt)
          | ((with_reducible refine gate_st (t := 25) (p := .tmp 12) (v := .tmp 64) rfl ?_); refine wpList_store_row rfl 25 (.tmp 12) (.tmp 64) rfl w4.heap.size (pmRow p uo uf ua) rfl rfl 25 _ (heap_alloc_new _ _) (by rw [row_size HS.out]; exact params_size) (by rw [row_size HS.out]; rfl) (row_one HS.out HT1.out.one.1 HT1.out.one.2.1 HT1.out.one.2.2) ?_; rw [World.setRow_alloc_new]))
        have HA1 : Aside0 (PmAt (w4.alloc (.cells (pmRow p uo uf ua) 25 (0, 0))) w4.heap.size p uo uf ua) := ⟨heap_alloc_new w4 _⟩
        have hal := Bl.alloc (Below.refl _ w4) (.cells (pmRow p uo uf ua) 25 (0, 0))
        have HA2 := Aside0.mk ((PY.out _ HW.out).1.below hal (PY.out _ HW.out).1.lt)
        have HT2 := Aside0.mk ((PY.out _ HW.out).2.1.below hal)
        have ht := Aside0.mk (HT1.out.below hal)
        have hw := Aside0.mk (Bl.then HW.out hal)
        clear HT1 HW hal
        have HT1 := ht
        have HW := hw
        clear ht hw
        go_upto_region 14 with fail
        refine wp_region_quiet_below (by kernel_rfl) (by kernel_rfl) ?_
        repeat (first
          | (refine wpQuiet_row (N := 69) (by kernel_rfl) (.tmp 12) rfl rfl rfl HA1.out HS.out ?_; simp only [Act.put, List.setIfInBounds_toArray, List.set_cons_zero, List.set_cons_succ])
          | (refine wpQuiet_row (N := 71) (by kernel_rfl) (.tmp 2) rfl rfl rfl HA2.out HS.out ?_; simp only [Act.put, List.setIfInBounds_toArray, List.set_cons_zero, List.set_cons_succ])
          | (go_big_quiet_step (first
            | (go_at_call 11; exact Calls.regrown_of (RF.out _ _ _ _ _ HS.out (HT1.out.below (below_regrown _ _ _))))
            | (go_at_call 11; exact Calls.regrown_of (RF.out _ _ _ _ _ HS.out (HT2.out.below (below_regrown _ _ _)))))))
        refine wpQuiet_nil ?_
        intro _ hw'
        obtain ⟨⟨dq, osq⟩, hw''⟩ := hw'
        subst hw''
        have hw := Aside0.mk (Bl.then HW.out (below_regrown _ dq osq))
        go_wp2_with fail
        go_ret
        exact ⟨rfl, Bl.then HWY.out hw.out⟩
      | cons e es2 =>
        obtain ⟨hle, hel⟩ := HSM.out e (by rw [hsp]; simp)
        have hsplit : B0 = flat encV es1 ++ layE encV e ++ flat encV es2 := by rw [← HBE.out, hsp, show es1 ++ e :: es2 = es1 ++ [e] ++ es2 by simp, flat_append, flat_append, flat_one]
        obtain ⟨off, hoff⟩ : ∃ off, (flat encV es1).length = off := ⟨_, rfl⟩
        have hl1 : B0.length = off + (2 + e.2.length) + (flat encV es2).length := by rw [hsplit, List.length_append, List.length_append, hle, hoff]; simp; omega
        have hat : B0[off + 1]? = some (e.2.length : Int) := by
          rw [hsplit, hle, ← hoff, List.append_assoc, List.getElem?_append_right (by omega)]
          simp
        have hcell : wr.cell? (ad.add (off + 1)) = some (.int .u8 (e.2.length : Int)) := by
          have := (Kd.reads_of_C (d := (0 : Int)) (Kd.C_below HQ.out.2 HBl.out)).2.2 (by omega)
          obtain ⟨ad', ha', hq⟩ := this
          injection ha' with ha'
          subst ha'
          have h2 := hq (off + 1) (by omega)
          rw [List.getD_eq_getElem?_getD, hat] at h2
          exact h2
        have hcell2 : wr.cell? ⟨ad.block, ad.off + (off + 1), none⟩ = some (.int .u8 (e.2.length : Int)) := by
          have h := hcell
          unfold Addr.add at h
          rwa [if_neg (by omega)] at h
        obtain ⟨v1, v2, r1, _, hsl⟩ := cuts (A := some ad) HQ.out.1 (off : Int) (2 + (e.2.length : Int)) (by omega) (by omega) (by omega)
        obtain ⟨hs1, _⟩ := hsl wr (Kd.C_below HQ.out.2 HBl.out)
        have hpc : (B0.drop (off : Int).toNat).take (2 + (e.2.length : Int)).toNat = layE encV e := by
          rw [show (2 + (e.2.length : Int)).toNat = 2 + e.2.length by omega, hsplit, Int.toNat_natCast, ← hoff, List.append_assoc, List.drop_left, List.take_append_of_le_length (by rw [hle]; simp; omega), List.take_of_length_le (by rw [hle]; simp; omega)]
        rw [hpc] at hs1
        have HPL : Aside0 ((layE encV e).length = 2 + e.2.length) := ⟨by rw [hle]; simp; omega⟩
        have HNX : Aside0 (es = (es1 ++ [e]) ++ es2 ∧ (flat encV (es1 ++ [e])).length = off + (2 + e.2.length) ∧ layE encV e ++ flat encV es1.reverse = flat encV (es1 ++ [e]).reverse ∧ (flat encV es1.reverse).length = off) := ⟨by rw [hsp]; simp, by rw [flat_append, flat_one, List.length_append, hle, hoff]; simp; omega, by rw [List.reverse_append]; simp [flat], by rw [flat_rev_len, hoff]⟩
        obtain ⟨A2, c2, rfl, hc2, hC2⟩ := hs1
        have HP := Aside0.mk hC2
        obtain ⟨At, ct, rfl, hct, hCt⟩ := sl_of_R HR.out
        have HC := Aside0.mk hCt
        rw [hoff]
        clear hsl hc2 hC2 hct hCt hpc hsplit hat hle hsp hoff
        have hlt : (off : Int) < B0.length := by omega
        have hbd : off + (2 + e.2.length) ≤ B0.length := by omega
        clear hl1 hcell
        go_wp2_with (first
          | ((with_reducible refine gate_builtin (b := .append) (xs := #[.tmp 47, .tmp 53]) rfl ?_); at_builtin; refine print_append_row_of (w0 := Y) (Value.int .u8) (0 : Int) Y.heap.size rfl (.tmp 47) (.tmp 53) 22 5 (.int .u8 0) 1 rfl Tryd.underlying22 infoB rfl (by decide) (fun _ => rfl) _ _ _ _ _ _ rfl rfl (own_empty (heap_alloc_new wr _) HBl.out.size) (Kd.reads_of_C (Kd.C_below HP.out (Bl.alloc (Below.refl _ wr) _))) (Bl.alloc HBl.out _) (by rw [alloc_size]; have := HBl.out.size; omega) (by rw [HPL.out]; simp; omega) ?_; intro t1 w1 ho1 hb1 hg1 _; have HO1 := Aside0.mk ho1; have HB1 := Aside0.mk hb1; have HR1 := Aside0.mk (R_past HR.out hg1 (by rfl)); clear ho1 hb1 hg1)
          | ((with_reducible refine gate_builtin (b := .append) (xs := #[.tmp 54, .tmp 55]) rfl ?_); at_builtin; refine print_append_row_of (w0 := Y) (Value.int .u8) (0 : Int) Y.heap.size rfl (.tmp 54) (.tmp 55) 22 5 (.int .u8 0) 1 rfl Tryd.underlying22 infoB rfl (by decide) (fun _ => rfl) _ _ _ _ _ _ rfl rfl (HO1.out) (Kd.reads_of_C (Kd.R_reads' HR1.out).2.2) (HB1.out) (HB1.out.size) (by have h1 := HPL.out; have h2 := HNX.out.2.2.2; simp only [List.nil_append]; omega) ?_; intro t2 w2 ho1 hb1 hg1 _; have HO2 := Aside0.mk ho1; have HB2 := Aside0.mk hb1; clear ho1 hb1 hg1))
        go_roundw
        case rel =>
          have hR2 : (Kd.int .u8).R 5 w2 Y.heap.size (fun _ => True) t2 ([] ++ layE encV e ++ flat encV es1.reverse) := Kd.R_of_own HO2.out (fun _ _ => trivial)
          rw [List.nil_append, HNX.out.2.2.1] at hR2
          exact ⟨es1 ++ [e], es2, HNX.out.1, by rw [HNX.out.2.1]; simp, hR2, HB2.out⟩
        case measure => simp [intOf]; omega
end Go.Proofs.YtcidijmdndcdlaaDoor.Pr
