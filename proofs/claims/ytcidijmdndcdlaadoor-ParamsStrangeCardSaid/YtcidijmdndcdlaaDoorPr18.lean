/- Parameters (layer 3): the law ParamsStrange; no condition. -/
import Derived.Test.YtcidijmdndcdlaaDoorPr17
set_option linter.unusedVariables false
set_option linter.unusedSimpArgs false
namespace Go.Proofs.YtcidijmdndcdlaaDoor.Pm
variable {enc : Int → List Int} {dec : List Int → Int → Int × Int × Int}
theorem fidx_far {id : Int} (h : 33 ≤ id) : fidx id = none := by
  cases hx : fidx id with
  | none => rfl
  | some k =>
    obtain ⟨hk, he⟩ := fidx_some hx
    have := (fid_odd k hk).2.2.2.2.2.2
    omega
theorem okE_far {server : Bool} {e : Ent} (h : 33 ≤ e.1) : okE dec server e = true := by
  unfold okE
  rw [fidx_far h]
  have h0 : e.1 ≠ 0 := by omega
  have h2 : e.1 ≠ 2 := by omega
  have h12 : e.1 ≠ 12 := by omega
  have h15 : e.1 ≠ 15 := by omega
  have h16 : e.1 ≠ 16 := by omega
  simp [h0, h2, h12, h15, h16]
theorem build_far (e : Ent) (es : List Ent) (h : 33 ≤ e.1) : build dec (e :: es) = build dec es := by
  have hl : ∀ id, id < 33 → lk (e :: es) id = lk es id := fun id hid => by rw [lk_cons, if_neg (by omega)]
  unfold build
  simp only [hl 12 (by decide), hl 0 (by decide), hl 15 (by decide), hl 16 (by decide), hl 2 (by decide)]
  congr 1
  refine List.map_congr_left fun k hk => ?_
  rw [hl _ (fid_odd k (List.mem_range.1 hk)).2.2.2.2.2.2]
theorem far_nodup {p : Pm} {server : Bool} (e : Ent) (h : 33 ≤ e.1) : ((e :: entries enc p server).map (·.1)).Nodup := by
  rw [List.map_cons, List.nodup_cons]
  refine ⟨fun hm => ?_, entries_nodup p server⟩
  rw [List.mem_map] at hm
  obtain ⟨⟨a, b⟩, hx, he⟩ := hm
  have := (entries_mem.1 hx).2.1
  simp only at he
  omega
theorem far_all (H : Codec enc dec) {p : Pm} {server : Bool} (hp : p.Ok) (hc : p.check server = true) (e : Ent) (h : 33 ≤ e.1) (h1 : e.1 ≤ 63) (hl : e.2.length ≤ 60) :
    ∀ x ∈ e :: entries enc p server, okE dec server x = true ∧ 0 ≤ x.1 ∧ x.1 ≤ top ∧ (x.2.length : Int) ≤ top := by
  intro x hx
  rcases List.mem_cons.1 hx with rfl | hx
  · exact ⟨okE_far h, by omega, by unfold top; omega, by unfold top; omega⟩
  · exact entries_ok H hp hc x hx
theorem read_far (H : Codec enc dec) {p : Pm} {server : Bool} (hp : p.Ok) (hc : p.check server = true) (e : Ent) (h : 33 ≤ e.1) (h1 : e.1 ≤ 63) (hl : e.2.length ≤ 60) (f : Nat) (hf : (layE enc e ++ put enc p server).length < f) :
    read dec server f (layE enc e ++ put enc p server) [] dflt = (0, p) := by
  have ho := far_all H hp hc e h h1 hl
  have hle := flat_len H (e :: entries enc p server) (fun x hx => ⟨(ho x hx).2.1, (ho x hx).2.2.1⟩)
  have hfl : layE enc e ++ put enc p server = flat enc (e :: entries enc p server) := by simp [flat, put]
  rw [hfl] at hf ⊢
  obtain ⟨g, rfl⟩ : ∃ g, f = (g + 1) + (e :: entries enc p server).length := ⟨f - 1 - (e :: entries enc p server).length, by omega⟩
  have hr := read_entries H server (e :: entries enc p server) [] (g + 1) (far_nodup e h) ho
  rw [List.append_nil] at hr
  rw [hr, read_end (by rw [List.map_cons]; exact List.mem_cons_of_mem _ entries_15) (fun hs => by rw [List.map_cons]; exact List.mem_cons_of_mem _ (entries_0 hs)), build_far e _ h, build_entries H hp hc]
theorem read_twice (H : Codec enc dec) {p : Pm} {server : Bool} (hp : p.Ok) (hc : p.check server = true) (e : Ent) (h : 33 ≤ e.1) (h1 : e.1 ≤ 63) (hl : e.2.length ≤ 60) (f : Nat) (hf : (layE enc e ++ put enc p server ++ layE enc e).length < f) :
    ∃ q, read dec server f (layE enc e ++ put enc p server ++ layE enc e) [] dflt = (13, q) := by
  have ho := far_all H hp hc e h h1 hl
  have hle := flat_len H (e :: entries enc p server) (fun x hx => ⟨(ho x hx).2.1, (ho x hx).2.2.1⟩)
  have hfl : layE enc e ++ put enc p server = flat enc (e :: entries enc p server) := by simp [flat, put]
  rw [hfl] at hf ⊢
  rw [List.length_append] at hf
  have hpos : 0 < (layE enc e).length := by
    have := (H.len e.1 (by omega) (by unfold top; omega)).1
    have h5 : (layE enc e).length = (enc e.1).length + ((enc (e.2.length : Int)).length + e.2.length) := by simp [layE]
    omega
  obtain ⟨g, rfl⟩ : ∃ g, f = (g + 1) + (e :: entries enc p server).length := ⟨f - 1 - (e :: entries enc p server).length, by omega⟩
  have hr := read_entries H server (e :: entries enc p server) (layE enc e) (g + 1) (far_nodup e h) ho
  refine ⟨build dec (e :: entries enc p server), ?_⟩
  rw [hr, read, if_neg (by intro hn; rw [hn] at hpos; simp at hpos)]
  have hnx := next_lay H e [] (by omega) (by unfold top; omega) (by unfold top; omega)
  rw [List.append_nil] at hnx
  rw [hnx]
  simp
end Go.Proofs.YtcidijmdndcdlaaDoor.Pm
namespace Go.Proofs.YtcidijmdndcdlaaDoor.Pr
open Go Go.RowKit Go.Maps Go.Proofs.YtcidijmdndcdlaaDoor.Pm Go.Proofs.YtcidijmdndcdlaaDoor.Rm Go.Proofs.YtcidijmdndcdlaaDoor.OctM
open Go.Proofs.YtcidijmdndcdlaaDoorW.PrintWords Go.Proofs.YtcidijmdndcdlaaDoorW.PrintLast Go.Proofs.YtcidijmdndcdlaaDoorW.PrintMore
variable {W W' W0 Z : World} {g b B m n : Nat} {p q : Pm} {vo vf va : Value} {kv : KV} {came : List Int}
theorem n_rng (sn : Int) : 33 ≤ wrap64 (33 + (wrap64 (sn.tmod 31 + 31)).tmod 31) ∧ wrap64 (33 + (wrap64 (sn.tmod 31 + 31)).tmod 31) ≤ 63 := by
  have h1 : sn.tmod 31 < 31 := Int.tmod_lt_of_pos sn (by decide)
  have h2 : -31 < sn.tmod 31 := Int.lt_tmod_of_pos sn (by decide)
  have e1 : wrap64 (sn.tmod 31 + 31) = sn.tmod 31 + 31 := wrap64_id (by omega) (by omega)
  rw [e1]
  have h3 : (sn.tmod 31 + 31).tmod 31 = (sn.tmod 31 + 31) % 31 := Int.tmod_eq_emod_of_nonneg (by omega)
  rw [h3]
  have e2 : wrap64 (33 + (sn.tmod 31 + 31) % 31) = 33 + (sn.tmod 31 + 31) % 31 := wrap64_id (by omega) (by omega)
  rw [e2]
  omega
theorem wrap_u8_mod (n : Int) : IntKind.u8.wrap n = n % 256 := by simp [IntKind.wrap, IntKind.bits, IntKind.signed]
theorem lay_far {id : Int} {v : List Int} (h0 : 0 ≤ id) (h1 : id < 64) (hl : v.length ≤ 60) : layE encV (id, v) = [id, (v.length : Int)] ++ v := by
  unfold layE
  simp only
  rw [codec.small id h0 h1, codec.small (v.length : Int) (by omega) (by omega)]
  rfl
theorem own_two {w : World} {g : Nat} {x y : Int} (hg : w.heap[g]? = some (.cells #[.int .u8 x, .int .u8 y] 5 (0, 0))) (hb : B ≤ g) : w.ownsRow B 5 1 (.slice (some ⟨g, 0, none⟩) 2 2) ([x, y] : List Int).length (encs (Value.int .u8) ([x, y] : List Int)) :=
  ⟨rfl, .inr ⟨g, 2, _, rfl, hb, hg, Nat.le_refl _, by unfold maxLen; decide, rfl, rfl⟩⟩
theorem sl_C {A : Option Addr} {n c : Nat} {xs : List Int} (h : Sl W (.slice A n c) xs) : Kd.C (Kd.int .u8) W A n xs := by
  obtain ⟨A', c', e, _, hC⟩ := h
  injection e with e1 e2 _
  rw [e1, e2]; exact hC
theorem bytes_app {xs ys : List Int} (h1 : Bytes xs) (h2 : Bytes ys) : Bytes (xs ++ ys) := fun x hx => (List.mem_append.1 hx).elim (h1 x) (h2 x)
set_option maxRecDepth 100000 in
set_option maxHeartbeats 3200000 in
theorem strange_walk (hG : GL W) (hp : p.Ok) (hx : Tx W p vo vf va) (sn : Int) (hsn : -9223372036854775808 ≤ sn ∧ sn ≤ 9223372036854775807) {A : Option Addr} {c : Nat} {ys : List Int} (hv : Sl W (.slice A ys.length c) ys) (hb : Bytes ys) (hl : ys.length ≤ big) (server : Bool) :
    Calls Tryd.prog 4 #[.agg (pmRow p vo vf va), .agg #[.int .i64 sn, .slice A ys.length c], .bool server] W fun e w' => e = .returned (.bool true) ∧ Below W.heap.size W w' := by
  have hs : Sz p := ⟨hp.n, hp.r⟩
  obtain ⟨Z1, hZ1⟩ : ∃ Z1, W.alloc (.cells (pmRow p vo vf va) 25 (0, 0)) = Z1 := ⟨_, rfl⟩
  obtain ⟨Z, hZ⟩ : ∃ Z, Z1.alloc (.cells #[.int .i64 sn, .slice A ys.length c] 39 (0, 0)) = Z := ⟨_, rfl⟩
  have hZb1 : Below W.heap.size W Z1 := by rw [← hZ1]; exact Bl.alloc (Below.refl _ W) _
  have hZb : Below W.heap.size W Z := by rw [← hZ]; exact Bl.alloc hZb1 _
  have hZ1p : PmAt Z1 W.heap.size p vo vf va := by rw [← hZ1]; exact heap_alloc_new W _
  have hZp : PmAt Z W.heap.size p vo vf va := by rw [← hZ]; exact hZ1p.below (Bl.alloc (Below.refl _ Z1) _) hZ1p.lt
  have hZs : Z.heap[Z1.heap.size]? = some (.cells #[.int .i64 sn, .slice A ys.length c] 39 (0, 0)) := by rw [← hZ]; exact heap_alloc_new Z1 _
  have s0 : Z.cell? ⟨Z1.heap.size, 0, none⟩ = some (.int .i64 sn) := by rw [cell_of_row _ _ _ _ _ _ hZs]; rfl
  have s1 : Z.cell? ⟨Z1.heap.size, 1, none⟩ = some (.slice A ys.length c) := by rw [cell_of_row _ _ _ _ _ _ hZs]; rfl
  have HW0 := Aside0.mk hZb
  have PA : Aside0 (∀ w', Below Z.heap.size Z w' → PmAt w' W.heap.size p vo vf va) := ⟨fun w' hb => hZp.below hb hZp.lt⟩
  have D0 : Aside0 (∀ w' : World, Calls Tryd.prog 9 #[] w' fun e w'' => e = .returned (.agg (pmRow dflt nilS nilS nilS)) ∧ Below w'.heap.size w' w'') := ⟨fun w' => default_s⟩
  have P0 : Aside0 (∀ w', Below Z.heap.size Z w' → Calls Tryd.prog 8 #[.agg (pmRow dflt nilS nilS nilS), .bool false] w' fun e w'' => ∃ A c, e = .returned (.tuple #[.slice A 2 c, .int .i64 0]) ∧ (convert 22 9 (.slice A 2 c)).run Tryd.prog w'' = .ok (.string ⟨#[15, 0]⟩) w'' ∧ Below w'.heap.size w' w'') := ⟨fun w' hb => put0 (gl_same hG (Sames.of_below (Bl.then hZb hb)))⟩
  have RF : Aside0 (∀ w' q vo vf va, Sz q → Tx w' q vo vf va → Calls Tryd.prog 11 #[.agg (pmRow q vo vf va)] w' fun e w'' => e = .returned (.agg (refRow q)) ∧ Below w'.heap.size w' w'') := ⟨fun w' q vo vf va hs ht => refs_s hs ht.so ht.sf ht.sa⟩
  have EQ := fun w => eql_ref p w
  have HS := Aside0.mk hs
  have HOK := Aside0.mk hp
  have TA : Aside0 (∀ w', Below Z.heap.size Z w' → Tx w' p vo vf va) := ⟨fun w' hb => hx.below (Bl.then hZb hb)⟩
  have VA : Aside0 (∀ w', Below Z.heap.size Z w' → Sl w' (.slice A ys.length c) ys) := ⟨fun w' hb => hv.below (Bl.then hZb hb)⟩
  have GA : Aside0 (∀ w', Below Z.heap.size Z w' → GL w') := ⟨fun w' hb => gl_same hG (Sames.of_below (Bl.then hZb hb))⟩
  have HBY := Aside0.mk hb
  have HLL := Aside0.mk hl
  have HSN := Aside0.mk hsn
  clear hs hp hx hG hv hb hl hsn hZb hZb1 hZp hZ1p hZs
  go_enter Tryd.func4, Tryd.ntmps4
  go_upto_region 1 with fail
  go_quiet (fail)
  have HW : Aside0 (Below Z.heap.size Z (Z.drewN nq)) := ⟨Bl.drewN (Below.refl _ _) nq⟩
  go_upto_region 2 with fail
  clear hZ hZ1 s0 s1
  cases hck : p.check server with
  | false =>
    have HCK := Aside0.mk hck
    clear hck
    go_wp2_with (first
      | ((with_reducible refine gate_ld (t := 25) rfl ?_); refine wpList_load_row rfl 25 (.tmp 3) rfl W.heap.size rfl 25 _ (0, 0) _ (PA.out _ HW.out) Tryd.underlying25 rfl (by rw [row_size HS.out]; exact params_size) ?_)
      | (go_at_call 9; (with_reducible refine (D0.out _).mono ?_); rintro e w1 ⟨rfl, hb⟩; have hw := Aside0.mk (Bl.then HW.out hb); clear HW hb; have HW := hw; clear hw)
      | (go_at_call 8; (with_reducible refine (P0.out _ HW.out).mono ?_); rintro e Y0 ⟨A0, c0, rfl, hcv, hb⟩; have hw := Aside0.mk (Bl.then HW.out hb); clear HW hb; have HW := hw; clear hw)
      | (go_at_call 8; (with_reducible refine (putBad HOK.out (TA.out _ HW.out) HCK.out).mono ?_); rintro e w3 ⟨rfl, hb⟩; have hw := Aside0.mk (Bl.then HW.out hb); clear HW hb; have HW := hw; clear hw))
    go_ret
    exact ⟨rfl, Bl.then HW0.out HW.out⟩
  | true =>
    have HCK := Aside0.mk hck
    clear hck
    by_cases h60 : ys.length > 60
    · have hg60 : (ys.length : Int) > 60 := by omega
      go_wp2_with (first
        | ((with_reducible refine gate_ld (t := 25) rfl ?_); refine wpList_load_row rfl 25 (.tmp 3) rfl W.heap.size rfl 25 _ (0, 0) _ (PA.out _ HW.out) Tryd.underlying25 rfl (by rw [row_size HS.out]; exact params_size) ?_)
        | (go_at_call 9; (with_reducible refine (D0.out _).mono ?_); rintro e w1 ⟨rfl, hb⟩; have hw := Aside0.mk (Bl.then HW.out hb); clear HW hb; have HW := hw; clear hw)
        | (go_at_call 8; (with_reducible refine (P0.out _ HW.out).mono ?_); rintro e Y0 ⟨A0, c0, rfl, hcv, hb⟩; have hw := Aside0.mk (Bl.then HW.out hb); clear HW hb; have HW := hw; clear hw)
        | (go_at_call 8; (with_reducible refine (putOk (GA.out _ HW.out) HOK.out (TA.out _ HW.out) HCK.out).mono ?_); rintro e w3 ⟨A1, c1, rfl, hs1, hb⟩; have HS1 := Aside0.mk hs1; clear hs1; have hw := Aside0.mk (Bl.then HW.out hb); clear HW hb; have HW := hw; clear hw))
      go_ret
      exact ⟨rfl, Bl.then HW0.out HW.out⟩
    · have hg60 : ¬ ((ys.length : Int) > 60) := by omega
      have h60' : ys.length ≤ 60 := by omega
      clear h60
      go_upto_region 8 with (first
        | ((with_reducible refine gate_ld (t := 25) rfl ?_); refine wpList_load_row rfl 25 (.tmp 3) rfl W.heap.size rfl 25 _ (0, 0) _ (PA.out _ HW.out) Tryd.underlying25 rfl (by rw [row_size HS.out]; exact params_size) ?_)
        | (go_at_call 9; (with_reducible refine (D0.out _).mono ?_); rintro e w1 ⟨rfl, hb⟩; have hs1 := Aside0.mk (HS1.out.below hb); have hw := Aside0.mk (Bl.then HW.out hb); clear HW hb; have HW := hw; clear hw; clear HS1; have HS1 := hs1; clear hs1)
        | (go_at_call 8; (with_reducible refine (P0.out _ HW.out).mono ?_); rintro e Y0 ⟨A0, c0, rfl, hcv, hb⟩; have hs1 := Aside0.mk (HS1.out.below hb); have hw := Aside0.mk (Bl.then HW.out hb); clear HW hb; have HW := hw; clear hw; clear HS1; have HS1 := hs1; clear hs1)
        | (go_at_call 8; (with_reducible refine (putOk (GA.out _ HW.out) HOK.out (TA.out _ HW.out) HCK.out).mono ?_); rintro e w3 ⟨A1, c1, rfl, hs1, hb⟩; have HS1 := Aside0.mk hs1; clear hs1; have hw := Aside0.mk (Bl.then HW.out hb); clear HW hb; have HW := hw; clear hw))
      obtain ⟨Y, hY⟩ : ∃ Y, Y0 = Y := ⟨_, rfl⟩
      rw [hY] at HW HS1 ⊢
      clear hY hcv
      go_upto_region 9 with fail
      obtain ⟨nn, hnn⟩ : ∃ nn, wrap64 (33 + (wrap64 (sn.tmod 31 + 31)).tmod 31) = nn := ⟨_, rfl⟩
      have hnr := n_rng sn
      rw [hnn] at hnr
      simp only [hnn]
      clear hnn
      generalize wrap64 (sn.tmod 31 + 31) = m1
      generalize sn.tmod 31 = m0
      have hwn : IntKind.u8.wrap nn = nn := by rw [wrap_u8_mod]; omega
      have hwl : IntKind.u8.wrap (ys.length : Int) = ys.length := by rw [wrap_u8_mod]; omega
      have hle : layE encV (nn, ys) = [nn, (ys.length : Int)] ++ ys := lay_far (by omega) (by omega) h60'
      have HLE : Aside0 (layE encV (nn, ys) = [nn, (ys.length : Int)] ++ ys ∧ (layE encV (nn, ys)).length = 2 + ys.length) := ⟨hle, by rw [hle]; simp; omega⟩
      have HNR := Aside0.mk hnr
      have HWY := Aside0.mk (Bl.then HW0.out HW.out)
      have hYp := PA.out _ HW.out
      have hYt := TA.out _ HW.out
      have hYv := VA.out _ HW.out
      have hYg := GA.out _ HW.out
      have HB : Aside0 (Bytes (layE encV (nn, ys)) ∧ Bytes (put encV p server) ∧ (put encV p server).length ≤ 2112) := ⟨lay_bytes codec (by simp only; omega) (by simp only; unfold top; omega) (by simp only; unfold top; omega) HBY.out, put_bytes codec HOK.out HCK.out, put_short HOK.out HCK.out⟩
      have HR1 : Aside0 (readB server (layE encV (nn, ys) ++ put encV p server) = (0, p)) := ⟨read_far codec HOK.out HCK.out (nn, ys) (by simp only; omega) (by simp only; omega) (by simp only; omega) _ (by omega)⟩
      obtain ⟨q13, hq13⟩ : ∃ q, readB server (layE encV (nn, ys) ++ put encV p server ++ layE encV (nn, ys)) = (13, q) := read_twice codec HOK.out HCK.out (nn, ys) (by simp only; omega) (by simp only; omega) (by simp only; omega) _ (by omega)
      have HR2 := Aside0.mk hq13
      have HYP := Aside0.mk (And.intro hYp (And.intro hYt (And.intro hYv hYg)))
      obtain ⟨L1, hL1⟩ : ∃ L, layE encV (nn, ys) = L := ⟨_, rfl⟩
      obtain ⟨L2, hL2⟩ : ∃ L, put encV p server = L := ⟨_, rfl⟩
      rw [hL1, hL2] at HB HR1 HR2
      rw [hL1] at HLE
      rw [hL2] at HS1 ⊢
      have hn63 : ¬ nn > 63 := by omega
      clear hle hq13 hL1 hL2 hYp hYt hYv hYg PA TA VA GA P0 D0 HW
      go_upto_region 10 with (first
        | ((with_reducible refine gate_builtin (b := .append) (xs := #[.tmp 55, .tmp 56]) rfl ?_); at_builtin; refine print_append_row_of (w0 := Y) (Value.int .u8) (0 : Int) Y.heap.size rfl (.tmp 55) (.tmp 56) 22 5 (.int .u8 0) 1 rfl Tryd.underlying22 infoB rfl (by decide) (fun _ => rfl) _ _ _ _ _ _ rfl rfl (own_two (heap_alloc_new Y _) (Nat.le_refl _)) (Kd.reads_of_C (sl_C (HYP.out.2.2.1.below (Bl.alloc (Below.refl _ Y) _)))) (Bl.alloc (Below.refl _ Y) _) (by rw [alloc_size]; omega) (by simp; omega) ?_; intro t1 w1 ho1 hb1 hg1 _; have HO1 := Aside0.mk ho1; have HB1 := Aside0.mk hb1; clear ho1 hb1 hg1))
      have HS2 : Aside0 (Sl w1 t1 L1) := ⟨by
        have := sl_of_R (Kd.R_of_own (h1 := fun _ => rfl) (ok := fun _ => True) HO1.out (fun _ _ => trivial))
        rw [HLE.out.1]; exact this⟩
      obtain ⟨A3, c3, rfl, hc3, hC3⟩ := HS2.out
      have HX : Aside0 (∀ w', Below w1.heap.size w1 w' → PmAt w' W.heap.size p vo vf va ∧ Tx w' p vo vf va ∧ GL w' ∧ Sl w' (.slice A3 L1.length c3) L1 ∧ Sl w' (.slice A1 L2.length c1) L2) := ⟨fun w' hb => by
        have h1 := Bl.then HB1.out hb
        exact ⟨HYP.out.1.below h1 HYP.out.1.lt, HYP.out.2.1.below h1, gl_same HYP.out.2.2.2 (Sames.of_below h1), HS2.out.below hb, HS1.out.below h1⟩⟩
      have HW1 := Aside0.mk (Bl.then HWY.out HB1.out)
      have HW : Aside0 (Below w1.heap.size w1 w1) := ⟨Below.refl _ _⟩
      clear HS1 HS2 HO1 HB1 HYP HWY hc3 hC3
      go_upto_region 12 with fail
      go_upto_region 13 with (first
        | ((with_reducible refine gate_builtin (b := .append) (xs := #[.tmp 61, .tmp 62]) rfl ?_); at_builtin; refine print_append_row_of (w0 := w1) (Value.int .u8) (0 : Int) w1.heap.size rfl (.tmp 61) (.tmp 62) 22 5 (.int .u8 0) 1 rfl Tryd.underlying22 infoB rfl (by decide) (fun _ => rfl) _ _ _ _ _ _ rfl rfl (own_empty (heap_alloc_new w1 _) (Nat.le_refl _)) (Kd.reads_of_C (sl_C (HX.out _ (Bl.alloc (Below.refl _ w1) _)).2.2.2.1)) (Bl.alloc (Below.refl _ w1) _) (by rw [alloc_size]; omega) (by have h1 := HLE.out.2; simp; omega) ?_; intro t2 w2 ho1 hb1 hg1 _; have HO2 := Aside0.mk ho1; have HB2 := Aside0.mk hb1; clear ho1 hb1 hg1)
        | ((with_reducible refine gate_builtin (b := .append) (xs := #[.tmp 63, .tmp 64]) rfl ?_); at_builtin; refine print_append_row_of (w0 := w1) (Value.int .u8) (0 : Int) w1.heap.size rfl (.tmp 63) (.tmp 64) 22 5 (.int .u8 0) 1 rfl Tryd.underlying22 infoB rfl (by decide) (fun _ => rfl) _ _ _ _ _ _ rfl rfl (HO2.out) (Kd.reads_of_C (sl_C (HX.out _ HB2.out).2.2.2.2)) (HB2.out) (HB2.out.size) (by have h1 := HLE.out.2; have h2 := HB.out.2.2; simp; omega) ?_; intro t3 w3 ho1 hb1 hg1 _; have HO3 := Aside0.mk ho1; have HB3 := Aside0.mk hb1; have hsl := sl_of_R (Kd.R_of_own (h1 := fun _ => rfl) (ok := fun _ => True) HO3.out (fun _ _ => trivial)); rw [List.nil_append] at hsl; have HS3 := Aside0.mk hsl; clear hsl; clear ho1 hb1 hg1)
        | (go_at_call 10; (with_reducible refine (readOk (HX.out _ HB3.out).2.2.1 HS3.out (bytes_app HB.out.1 HB.out.2.1) (by have h1 := HLE.out.2; have h2 := HB.out.2.2; unfold big; simp; omega) server HR1.out).mono ?_); rintro e w4 ⟨uo, uf, ua, rfl, hgt, hb⟩; have HT1 := Aside0.mk (hgt.tx); have HB4 := Aside0.mk (Bl.then HB3.out hb); clear hgt hb)
        | ((with_reducible refine gate_st (t := 25) (p := .tmp 15) (v := .tmp 68) rfl ?_); refine wpList_store_row rfl 25 (.tmp 15) (.tmp 68) rfl w4.heap.size (pmRow p uo uf ua) rfl rfl 25 _ (heap_alloc_new _ _) (by rw [row_size HS.out]; exact params_size) (by rw [row_size HS.out]; rfl) (row_one HS.out HT1.out.one.1 HT1.out.one.2.1 HT1.out.one.2.2) ?_; rw [World.setRow_alloc_new]))
      have hal := Bl.alloc (Below.refl _ w4) (.cells (pmRow p uo uf ua) 25 (0, 0))
      obtain ⟨w5, hw5⟩ : ∃ w5, w4.alloc (.cells (pmRow p uo uf ua) 25 (0, 0)) = w5 := ⟨_, rfl⟩
      have ha1 : PmAt w5 w4.heap.size p uo uf ua := by rw [← hw5]; exact heap_alloc_new w4 _
      rw [hw5] at hal ⊢
      have HB5 := Aside0.mk (Bl.then HB4.out hal)
      have ht1 := HT1.out.below hal
      have HY : Aside0 (∀ w', Below w5.heap.size w5 w' → PmAt w' w4.heap.size p uo uf ua ∧ Tx w' p uo uf ua) := ⟨fun w' hb => ⟨ha1.below hb ha1.lt, ht1.below hb⟩⟩
      clear hw5 hal ha1 ht1 HT1 HB2 HB3 HB4 HO2 HO3 HS3
      go_upto_region 14 with (first
        | ((with_reducible refine gate_builtin (b := .append) (xs := #[.tmp 71, .tmp 72]) rfl ?_); at_builtin; refine print_append_row_of (w0 := w5) (Value.int .u8) (0 : Int) w5.heap.size rfl (.tmp 71) (.tmp 72) 22 5 (.int .u8 0) 1 rfl Tryd.underlying22 infoB rfl (by decide) (fun _ => rfl) _ _ _ _ _ _ rfl rfl (own_empty (heap_alloc_new w5 _) (Nat.le_refl _)) (Kd.reads_of_C (sl_C (HX.out _ (Bl.alloc HB5.out _)).2.2.2.1)) (Bl.alloc (Below.refl _ w5) _) (by rw [alloc_size]; omega) (by have h1 := HLE.out.2; simp; omega) ?_; intro t6 w6 ho1 hb1 hg1 _; have HO6 := Aside0.mk ho1; have HB6 := Aside0.mk hb1; clear ho1 hb1 hg1)
        | ((with_reducible refine gate_builtin (b := .append) (xs := #[.tmp 73, .tmp 74]) rfl ?_); at_builtin; refine print_append_row_of (w0 := w5) (Value.int .u8) (0 : Int) w5.heap.size rfl (.tmp 73) (.tmp 74) 22 5 (.int .u8 0) 1 rfl Tryd.underlying22 infoB rfl (by decide) (fun _ => rfl) _ _ _ _ _ _ rfl rfl (HO6.out) (Kd.reads_of_C (sl_C (HX.out _ (Bl.then HB5.out HB6.out)).2.2.2.2)) (HB6.out) (HB6.out.size) (by have h1 := HLE.out.2; have h2 := HB.out.2.2; simp; omega) ?_; intro t7 w7 ho1 hb1 hg1 _; have HO7 := Aside0.mk ho1; have HB7 := Aside0.mk hb1; clear ho1 hb1 hg1)
        | ((with_reducible refine gate_builtin (b := .append) (xs := #[.tmp 75, .tmp 76]) rfl ?_); at_builtin; refine print_append_row_of (w0 := w5) (Value.int .u8) (0 : Int) w5.heap.size rfl (.tmp 75) (.tmp 76) 22 5 (.int .u8 0) 1 rfl Tryd.underlying22 infoB rfl (by decide) (fun _ => rfl) _ _ _ _ _ _ rfl rfl (HO7.out) (Kd.reads_of_C (sl_C (HX.out _ (Bl.then HB5.out HB7.out)).2.2.2.1)) (HB7.out) (HB7.out.size) (by have h1 := HLE.out.2; have h2 := HB.out.2.2; simp; omega) ?_; intro t8 w8 ho1 hb1 hg1 _; have HO8 := Aside0.mk ho1; have HB8 := Aside0.mk hb1; have hsl := sl_of_R (Kd.R_of_own (h1 := fun _ => rfl) (ok := fun _ => True) HO8.out (fun _ _ => trivial)); rw [List.nil_append] at hsl; have HS8 := Aside0.mk hsl; clear hsl; clear ho1 hb1 hg1)
        | (go_at_call 10; (with_reducible refine (readBad (HX.out _ (Bl.then HB5.out HB8.out)).2.2.1 HS8.out (bytes_app (bytes_app HB.out.1 HB.out.2.1) HB.out.1) (by have h1 := HLE.out.2; have h2 := HB.out.2.2; unfold big; simp; omega) server (by decide) HR2.out).mono ?_); rintro e w9 ⟨rfl, hb⟩; have HB9 := Aside0.mk (Bl.then HB8.out hb); clear hb))
      have HA1 := Aside0.mk (HY.out _ HB9.out).1
      have HT1 := Aside0.mk (HY.out _ HB9.out).2
      have HA2 := Aside0.mk (HX.out _ (Bl.then HB5.out HB9.out)).1
      have HT2 := Aside0.mk (HX.out _ (Bl.then HB5.out HB9.out)).2.1
      go_upto_region 14 with fail
      refine wp_region_quiet_below (by kernel_rfl) (by kernel_rfl) ?_
      repeat (first
        | (refine wpQuiet_row (N := 85) (by kernel_rfl) (.tmp 15) rfl rfl rfl HA1.out HS.out ?_; simp only [Act.put, List.setIfInBounds_toArray, List.set_cons_zero, List.set_cons_succ])
        | (refine wpQuiet_row (N := 87) (by kernel_rfl) (.tmp 3) rfl rfl rfl HA2.out HS.out ?_; simp only [Act.put, List.setIfInBounds_toArray, List.set_cons_zero, List.set_cons_succ])
        | (go_big_quiet_step (first
          | (go_at_call 11; exact Calls.regrown_of (RF.out _ _ _ _ _ HS.out (HT1.out.below (below_regrown _ _ _))))
          | (go_at_call 11; exact Calls.regrown_of (RF.out _ _ _ _ _ HS.out (HT2.out.below (below_regrown _ _ _)))))))
      refine wpQuiet_nil ?_
      intro _ hw'
      obtain ⟨⟨dq, osq⟩, hw''⟩ := hw'
      subst hw''
      have hw := Bl.then (Bl.then HW1.out HB5.out) (Bl.then HB9.out (below_regrown _ dq osq))
      go_wp2_with fail
      go_ret
      exact ⟨rfl, hw⟩
end Go.Proofs.YtcidijmdndcdlaaDoor.Pr
