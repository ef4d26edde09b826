/- The walks of caravelref01.Number and caravelref01.Read; no condition but that the slice holds bytes. -/
import Derived.Test.YtcidijmdndcdlaaDoorOctet
set_option linter.unusedVariables false
set_option linter.unusedSimpArgs false
namespace Go.Proofs.YtcidijmdndcdlaaDoor
open Go.RowKit Go.Proofs.YtcidijmdndcdlaaDoorW.PrintWords Go.Proofs.YtcidijmdndcdlaaDoorW.PrintLast Go.Proofs.YtcidijmdndcdlaaDoorW.PrintMore

set_option maxHeartbeats 1000000 in
theorem number_calls (A0 : Option Addr) (c0 : Nat) (l0 : List Int) (w : World) (hr0 : Kd.C (Kd.int .u8) w A0 l0.length l0) (hc0 : l0.length ≤ c0) (h8 : l0.length ≤ 8) (hw : ∀ x ∈ l0, 0 ≤ x ∧ x < 256) :
    Calls Tryd.prog 48 #[.slice A0 l0.length c0] w fun e w' => e = .returned (.int .u64 (numB l0)) ∧ w = w' := by
  have HR := Aside0.mk hr0
  have HW := Aside0.mk hw
  clear hr0 hw
  go_enter Tryd.func48, Tryd.ntmps48
  go_wp2
  go_loop [3, 4] (fun v i => ∃ k : Nat, k ≤ l0.length ∧ i = .int .i64 k ∧ v = .int .u64 (numB (l0.take k))) (fun _ i => l0.length - (intOf i).toNat)
  case atStart => exact ⟨0, by omega, rfl, rfl⟩
  case round =>
    obtain ⟨k, hk, rfl, rfl⟩ := hrel
    by_cases hlt : k < l0.length
    · obtain ⟨b0, b1⟩ := numB_take_lt l0 HW.out k (by omega)
      obtain ⟨ad, rfl, hcell⟩ := Kd.at_int HR.out (k : Int) (by omega) (by omega)
      rw [Int.toNat_natCast] at hcell
      have hx := HW.out (l0[k]) (List.getElem_mem hlt)
      have hrd : rd l0 k = l0[k] := by simp [rd, List.getD_eq_getElem?_getD, List.getElem?_eq_getElem hlt]
      rw [hrd] at hcell
      clear hrd
      have hts : numB (l0.take (k + 1)) = numB (l0.take k) * 256 + l0[k] := by
        rw [List.take_succ_eq_append_getElem hlt, numB_snoc]
      have HTS := Aside0.mk hts
      clear hts
      generalize l0[k] = x at *
      generalize numB (l0.take k) = v at *
      obtain ⟨x0, x1⟩ := hx
      go_wp2
      go_round
      case rel => exact ⟨k + 1, by omega, by go_num, by rw [HTS.out]⟩
      case measure => simp [intOf]; omega
    · have hke : l0.take k = l0 := List.take_of_length_le (by omega)
      go_wp2
      go_ret
      exact ⟨by rw [← hke]; rfl, rfl⟩
theorem number_callsN (A0 : Option Addr) (c0 n : Nat) (l0 : List Int) (w : World) (hn : l0.length = n) (hr0 : Kd.C (Kd.int .u8) w A0 n l0) (hc0 : n ≤ c0) (h8 : n ≤ 8) (hw : ∀ x ∈ l0, 0 ≤ x ∧ x < 256) :
    Calls Tryd.prog 48 #[.slice A0 n c0] w fun e w' => e = .returned (.int .u64 (numB l0)) ∧ w = w' := by
  subst hn
  exact number_calls A0 c0 l0 w hr0 hc0 h8 hw

theorem fold_cons : ∀ (r : List Int) (v : Int), r.foldl (fun v x => v * 256 + x) v = v * 256 ^ r.length + numB r := by
  intro r
  induction r with
  | nil => intro v; simp [numB]
  | cons x r ih =>
    intro v
    have e : numB (x :: r) = x * 256 ^ r.length + numB r := by
      show r.foldl _ (0 * 256 + x) = _
      rw [ih]; simp
    rw [List.foldl_cons, ih, e, List.length_cons, Int.pow_succ]
    rw [Int.add_mul, Int.mul_assoc, Int.mul_comm (256 ^ r.length) 256, Int.add_assoc]
theorem numB_cons (x : Int) (r : List Int) : numB (x :: r) = x * 256 ^ r.length + numB r := by
  show r.foldl _ (0 * 256 + x) = _
  rw [fold_cons]; simp
theorem numB_mod (x : Int) (r : List Int) (h : ∀ y ∈ r, 0 ≤ y ∧ y < 256) : numB ((x % 64) :: r) = numB (x :: r) % (64 * 256 ^ r.length) := by
  obtain ⟨a, b⟩ := numB_bound r h
  rw [numB_cons, numB_cons]
  generalize (256 : Int) ^ r.length = p at *
  generalize numB r = q at *
  have hd := Int.emod_add_mul_ediv x 64
  have e : x * p + q = (x % 64 * p + q) + (64 * p) * (x / 64) := by
    have : x * p = (x % 64 + 64 * (x / 64)) * p := by rw [hd]
    rw [this, Int.add_mul, Int.mul_right_comm 64 (x / 64) p]
    omega
  rw [e, Int.add_mul_emod_self_left]
  have m0 : 0 ≤ x % 64 := Int.emod_nonneg _ (by decide)
  have m1 : x % 64 ≤ 63 := by omega
  have k0 : 0 ≤ x % 64 * p := Int.mul_nonneg m0 (by omega)
  have k1 : x % 64 * p ≤ 63 * p := Int.mul_le_mul_of_nonneg_right m1 (by omega)
  exact (Int.emod_eq_of_lt (by omega) (by omega)).symm

theorem refread_arg (A0 : Option Addr) (c0 : Nat) (l0 : List Int) (a1 : Int) (w : World) (hc0 : l0.length ≤ c0) (hl : l0.length ≤ 140737488355328) (h : a1 < 0 ∨ a1 > l0.length) :
    Calls Tryd.prog 35 #[.slice A0 l0.length c0, .int .i64 a1] w fun e w' => e = .returned (.tuple #[.int .i64 0, .int .i64 0, .int .i64 2]) ∧ w = w' := by
  by_cases h0 : a1 < 0
  · have d1 : decide (a1 < 0) = true := by simpa using h0
    go_enter Tryd.func35, Tryd.ntmps35
    go_wp2
    go_ret3
    exact ⟨rfl, rfl⟩
  · have d1 : decide (a1 < 0) = false := by simpa using h0
    have d2 : decide ((l0.length : Int) < a1) = true := by simp; omega
    go_enter Tryd.func35, Tryd.ntmps35
    go_wp2
    go_ret3
    exact ⟨rfl, rfl⟩
theorem refread_end (A0 : Option Addr) (c0 : Nat) (l0 : List Int) (a1 : Int) (w : World) (hc0 : l0.length ≤ c0) (hl : l0.length ≤ 140737488355328) (h : a1 = l0.length) :
    Calls Tryd.prog 35 #[.slice A0 l0.length c0, .int .i64 a1] w fun e w' => e = .returned (.tuple #[.int .i64 0, .int .i64 0, .int .i64 10]) ∧ w = w' := by
  subst h
  have d1 : decide ((l0.length : Int) < 0) = false := by simp
  have d2 : decide ((l0.length : Int) < (l0.length : Int)) = false := by simp
  go_enter Tryd.func35, Tryd.ntmps35
  go_wp2
  all_goals
    go_ret3
    exact ⟨rfl, rfl⟩
theorem nums_one (k : IntKind) (l : List Int) : ∀ u ∈ nums k l, u.oneCell' = true := by
  intro u hu
  unfold nums at hu
  obtain ⟨x, _, rfl⟩ := List.mem_map.1 hu
  rfl
theorem own_cap {w : World} {base : Nat} {e : TypeId} {size n cap g : Nat} {xs : List Value} (h : w.ownsRow base e size (.slice (some ⟨g, 0, none⟩) n cap) n xs) : n ≤ cap := by
  rcases h.2 with ⟨h1, _⟩ | ⟨g', cap', cur, h1, _, _, h2, _⟩
  · cases h1
  · injection h1 with _ _ h3; omega
theorem infoR5 : (Tryd.prog.info? 5).map (fun i => (i.zero, i.size, i.bytes)) = some (some (.int .u8 0), 1, 1) := by kernel_rfl
theorem cellsR_of {w : World} {a : Addr} {n : Nat} {l : List Int} (hn : l.length = n) (h : Kd.C (Kd.int .u8) w (some a) n l) : ∀ (j : Nat) (u : Value), (nums .u8 l)[j]? = some u → w.cell? (a.add j) = some u := by
  intro j u hu
  have hj : j < l.length := by
    have := (List.getElem?_eq_some_iff.1 hu).1
    simpa [nums] using this
  obtain ⟨ad, e, hc⟩ := Kd.at_int h (j : Int) (by omega) (by omega)
  obtain rfl := Option.some.inj e
  rw [Int.toNat_natCast] at hc
  rw [hc]
  simp only [nums, List.getElem?_map, List.getElem?_eq_getElem hj, Option.map_some, Option.some.injEq] at hu
  rw [← hu]
  simp [rd, List.getD_eq_getElem?_getD, List.getElem?_eq_getElem hj]

set_option maxHeartbeats 2000000 in
theorem refread_0 (ad : Addr) (c0 : Nat) (l0 : List Int) (k : Nat) (w : World) (hr0 : Kd.C (Kd.int .u8) w (some ad) l0.length l0) (hc0 : l0.length ≤ c0) (hw : ∀ x ∈ l0, 0 ≤ x ∧ x < 256) (hl : l0.length ≤ 140737488355328) (hk : k < l0.length) (hx : rd l0 k / 64 = 0) :
    Calls Tryd.prog 35 #[.slice (some ad) l0.length c0, .int .i64 k] w fun e w' => e = .returned (.tuple #[.int .i64 (vone (l0.drop k) k 1 64).1, .int .i64 (vone (l0.drop k) k 1 64).2.1, .int .i64 (vone (l0.drop k) k 1 64).2.2]) ∧ Below w.heap.size w w' := by
  have HR := Aside0.mk hr0
  have hwk : ∀ x ∈ l0.drop k, 0 ≤ x ∧ x < 256 := fun x hx => hw x (List.mem_of_mem_drop hx)
  have HWK := Aside0.mk hwk
  obtain ⟨ad', e, hcell⟩ := Kd.at_int hr0 (k : Int) (by omega) (by omega)
  obtain rfl := Option.some.inj e
  rw [Int.toNat_natCast] at hcell
  have hgk : rd l0 k = l0[k] := by simp [rd, List.getD_eq_getElem?_getD, List.getElem?_eq_getElem hk]
  have hrng : 0 ≤ rd l0 k ∧ rd l0 k < 256 := by rw [hgk]; exact hw _ (List.getElem_mem hk)
  have hcons : l0.drop k = rd l0 k :: l0.drop (k + 1) := by rw [hgk]; exact List.drop_eq_getElem_cons hk
  have HCONS := Aside0.mk hcons
  clear hr0 hw hwk e hcons hgk
  generalize rd l0 k = x at *
  obtain ⟨x0, x1⟩ := hrng
  have d1 : decide ((k : Int) < 0) = false := by simp
  have d2 : decide ((l0.length : Int) < (k : Int)) = false := by simp; omega
  have d2n : decide (l0.length < k) = false := by simp; omega
  have d3 : ((k : Int) == (l0.length : Int)) = false := by rw [beq_eq_false_iff_ne]; omega
  have d3n : (k == l0.length) = false := by rw [beq_eq_false_iff_ne]; omega
  by_cases hn : l0.length - k < 1
  · exact absurd hn (by omega)
  · have hv : vone (l0.drop k) k 1 64 = (numB ((l0.drop k).take 1) % 64, (k : Int) + 1, 0) := by unfold vone; rw [List.length_drop, if_neg hn]; rfl
    have HV := Aside0.mk hv
    clear hv
    have d4 : decide ((l0.length : Int) - (k : Int) < 1) = false := by simp; omega
    have hn2 : 1 ≤ l0.length - k := by omega
    have hn3 : k + 1 ≤ c0 := by omega
    have hlen : ((l0.drop k).take 1).length = 1 := by rw [List.length_take, List.length_drop]; omega
    have HLEN := Aside0.mk hlen
    have HCR := Aside0.mk (C_drop (n := 1) HR.out (k := k) (by omega))
    have hset : ((l0.drop k).take 1).set 0 (x % 64) = (x % 64) :: (l0.drop (k + 1)).take (1 - 1) := by rw [HCONS.out]; rfl
    have hL : (l0.drop k).take 1 = x :: (l0.drop (k + 1)).take (1 - 1) := by rw [HCONS.out]; rfl
    have HSET := Aside0.mk hset
    have HL := Aside0.mk hL
    have hrest : ∀ y ∈ (l0.drop (k + 1)).take (1 - 1), 0 ≤ y ∧ y < 256 := fun y hy => HWK.out y (by rw [HCONS.out]; exact List.mem_cons_of_mem _ (List.mem_of_mem_take hy))
    have HREST := Aside0.mk hrest
    have hrn : ∀ y ∈ (x % 64) :: (l0.drop (k + 1)).take (1 - 1), 0 ≤ y ∧ y < 256 := by
      intro y hy
      rcases List.mem_cons.1 hy with rfl | hy
      · omega
      · exact hrest y hy
    have HRN := Aside0.mk hrn
    have hrl : ((l0.drop (k + 1)).take (1 - 1)).length = 1 - 1 := by rw [List.length_take, List.length_drop]; omega
    have hln2 : ((x % 64) :: (l0.drop (k + 1)).take (1 - 1)).length = 1 := by rw [List.length_cons, hrl]
    have HLN2 := Aside0.mk hln2
    have hmod : numB ((x % 64) :: (l0.drop (k + 1)).take (1 - 1)) = numB ((l0.drop k).take 1) % 64 := by
      rw [hL, numB_mod _ _ hrest, hrl]; rfl
    have HMOD := Aside0.mk hmod
    have hm1 : 0 ≤ numB ((l0.drop k).take 1) % 64 ∧ numB ((l0.drop k).take 1) % 64 < 64 := ⟨Int.emod_nonneg _ (by decide), Int.emod_lt_of_pos _ (by decide)⟩
    have hwr : wrap64 (numB ((x % 64) :: (l0.drop (k + 1)).take (1 - 1))) = numB ((l0.drop k).take 1) % 64 := by
      rw [hmod]; unfold wrap64; omega
    have HWR := Aside0.mk hwr
    have hsum : wrap64 ((k : Int) + 1) = (k : Int) + 1 := by unfold wrap64; omega
    have HSUM := Aside0.mk hsum
    clear hlen hset hL hrest hrl hln2 hrn hmod hm1 hwr hsum
    obtain ⟨i0, hi, hz0, hz1, hz2⟩ := info_parts infoR5
    go_enter Tryd.func35, Tryd.ntmps35
    go_wp2_with (first
      | ((with_reducible refine gate_builtin (b := .append) (xs := #[.tmp 34, .tmp 40]) rfl ?_); at_builtin; refine wpList_append_own _ rfl _ _ 22 rfl w.heap.size 5 i0 (.int .u8 0) 1 1 Tryd.underlying22 hi hz0 hz1 hz2 rfl (by decide) _ 0 [] rfl ?c0 (ad.add k) 1 _ (nums .u8 ((l0.drop k).take 1)) rfl ?c1 ?c2 ?c3 ?c4 ?c5 ?c6 ?_; (case c0 => exact World.ownsRow_made w #[] 0 (Nat.le_refl _) (Nat.zero_le _) rfl); (case c1 => unfold nums; rw [List.length_map]; exact HLEN.out); (case c2 => exact fun j u hu => pw_cell_below (below_alloc (Below.refl _ _) _) (cellsR_of HLEN.out HCR.out j u hu)); (case c3 => exact nums_one _ _); (case c4 => unfold maxLen; omega); (case c5 => omega); (case c6 => simp); intro v' w1 hown hgrow _; rw [show 0 + 1 = 1 from rfl, List.nil_append] at hown; have hb0 : Below w.heap.size w w1 := ((below_alloc (Below.refl _ _) (Obj.cells #[] 5)).grown (show (w.alloc (Obj.cells #[] 5)).grownBy w1 (some w.heap.size) from hgrow) (by simp) (fun k hk => Nat.le_of_eq (Option.some.inj hk))); clear hgrow; obtain ⟨g, cap, hve, hg1, hg2⟩ := hown.form (by decide); subst hve; have hcap : 1 ≤ cap := own_cap hown; have HCAP := Aside0.mk hcap; clear hcap; have hRR : Kd.R (Kd.int .u8) 5 w1 w.heap.size (fun _ => True) (.slice (some ⟨g, 0, none⟩) ((l0.drop k).take 1).length cap) ((l0.drop k).take 1) := Kd.R_of_own (by rw [HLEN.out]; exact hown) (fun _ _ => trivial); have HRR := Aside0.mk hRR; obtain ⟨hcl, hfr⟩ := Kd.R_cell (0 : Int) hRR 0 (by decide) (by rw [HLEN.out]; decide); have hrd0 : rdOf (0 : Int) ((l0.drop k).take 1) 0 = x := (by rw [HL.out]; rfl); rw [hrd0] at hcl; clear hrd0 hRR hown; have hcl2 : w1.cell? ⟨g, 0, none⟩ = some (.int .u8 x) := hcl; have hfr2 : w1.frozen? ⟨g, 0, none⟩ = false := hfr; clear hcl hfr; have hput := (Kd.R_put HRR.out (0 : Int) (x % 64)); obtain ⟨hp1, hp2⟩ := hput; have hp3 := (Kd.R_reads' hp1).2.2; have hp4 : Kd.C (Kd.int .u8) (w1.setCell ⟨g, 0, none⟩ (.int .u8 (x % 64))) (some ⟨g, 0, none⟩) (((l0.drop k).take 1).set 0 (x % 64)).length (((l0.drop k).take 1).set 0 (x % 64)) := hp3; rw [List.length_set, HLEN.out, HSET.out] at hp4; have HC2 := Aside0.mk hp4; have hp5 : Below w.heap.size w (w1.setCell ⟨g, 0, none⟩ (.int .u8 (x % 64))) := hb0.grown hp2 (by omega) (fun k hk => by obtain rfl := Option.some.inj hk; exact hg1); have HB := Aside0.mk hp5; clear hb0 hp1 hp2 hp3 hp4 hp5)
      | (go_at_call 48; refine (number_callsN _ _ 1 _ _ HLN2.out HC2.out HCAP.out (by decide) HRN.out).mono ?_; rintro e w' ⟨rfl, rfl⟩))
    go_ret3
    refine ⟨?_, HB.out⟩
    rw [HV.out]
    show Ending.returned (.tuple #[.int .i64 (wrap64 (numB ((x % 64) :: (l0.drop (k + 1)).take (1 - 1)))), .int .i64 ((k : Int) + 1), .int .i64 0]) = _
    rw [HWR.out]

set_option maxHeartbeats 2000000 in
theorem refread_1 (ad : Addr) (c0 : Nat) (l0 : List Int) (k : Nat) (w : World) (hr0 : Kd.C (Kd.int .u8) w (some ad) l0.length l0) (hc0 : l0.length ≤ c0) (hw : ∀ x ∈ l0, 0 ≤ x ∧ x < 256) (hl : l0.length ≤ 140737488355328) (hk : k < l0.length) (hx : rd l0 k / 64 = 1) :
    Calls Tryd.prog 35 #[.slice (some ad) l0.length c0, .int .i64 k] w fun e w' => e = .returned (.tuple #[.int .i64 (vone (l0.drop k) k 2 16384).1, .int .i64 (vone (l0.drop k) k 2 16384).2.1, .int .i64 (vone (l0.drop k) k 2 16384).2.2]) ∧ Below w.heap.size w w' := by
  have HR := Aside0.mk hr0
  have hwk : ∀ x ∈ l0.drop k, 0 ≤ x ∧ x < 256 := fun x hx => hw x (List.mem_of_mem_drop hx)
  have HWK := Aside0.mk hwk
  obtain ⟨ad', e, hcell⟩ := Kd.at_int hr0 (k : Int) (by omega) (by omega)
  obtain rfl := Option.some.inj e
  rw [Int.toNat_natCast] at hcell
  have hgk : rd l0 k = l0[k] := by simp [rd, List.getD_eq_getElem?_getD, List.getElem?_eq_getElem hk]
  have hrng : 0 ≤ rd l0 k ∧ rd l0 k < 256 := by rw [hgk]; exact hw _ (List.getElem_mem hk)
  have hcons : l0.drop k = rd l0 k :: l0.drop (k + 1) := by rw [hgk]; exact List.drop_eq_getElem_cons hk
  have HCONS := Aside0.mk hcons
  clear hr0 hw hwk e hcons hgk
  generalize rd l0 k = x at *
  obtain ⟨x0, x1⟩ := hrng
  have d1 : decide ((k : Int) < 0) = false := by simp
  have d2 : decide ((l0.length : Int) < (k : Int)) = false := by simp; omega
  have d2n : decide (l0.length < k) = false := by simp; omega
  have d3 : ((k : Int) == (l0.length : Int)) = false := by rw [beq_eq_false_iff_ne]; omega
  have d3n : (k == l0.length) = false := by rw [beq_eq_false_iff_ne]; omega
  by_cases hn : l0.length - k < 2
  · have hv : vone (l0.drop k) k 2 16384 = (0, 0, 10) := by unfold vone; rw [List.length_drop, if_pos hn]
    have HV := Aside0.mk hv
    clear hv
    have d4 : decide ((l0.length : Int) - (k : Int) < 2) = true := by simp; omega
    go_enter Tryd.func35, Tryd.ntmps35
    go_wp2
    go_ret3
    exact ⟨by rw [HV.out]; rfl, Below.refl _ _⟩
  · have hv : vone (l0.drop k) k 2 16384 = (numB ((l0.drop k).take 2) % 16384, (k : Int) + 2, 0) := by unfold vone; rw [List.length_drop, if_neg hn]; rfl
    have HV := Aside0.mk hv
    clear hv
    have d4 : decide ((l0.length : Int) - (k : Int) < 2) = false := by simp; omega
    have hn2 : 2 ≤ l0.length - k := by omega
    have hn3 : k + 2 ≤ c0 := by omega
    have hlen : ((l0.drop k).take 2).length = 2 := by rw [List.length_take, List.length_drop]; omega
    have HLEN := Aside0.mk hlen
    have HCR := Aside0.mk (C_drop (n := 2) HR.out (k := k) (by omega))
    have hset : ((l0.drop k).take 2).set 0 (x % 64) = (x % 64) :: (l0.drop (k + 1)).take (2 - 1) := by rw [HCONS.out]; rfl
    have hL : (l0.drop k).take 2 = x :: (l0.drop (k + 1)).take (2 - 1) := by rw [HCONS.out]; rfl
    have HSET := Aside0.mk hset
    have HL := Aside0.mk hL
    have hrest : ∀ y ∈ (l0.drop (k + 1)).take (2 - 1), 0 ≤ y ∧ y < 256 := fun y hy => HWK.out y (by rw [HCONS.out]; exact List.mem_cons_of_mem _ (List.mem_of_mem_take hy))
    have HREST := Aside0.mk hrest
    have hrn : ∀ y ∈ (x % 64) :: (l0.drop (k + 1)).take (2 - 1), 0 ≤ y ∧ y < 256 := by
      intro y hy
      rcases List.mem_cons.1 hy with rfl | hy
      · omega
      · exact hrest y hy
    have HRN := Aside0.mk hrn
    have hrl : ((l0.drop (k + 1)).take (2 - 1)).length = 2 - 1 := by rw [List.length_take, List.length_drop]; omega
    have hln2 : ((x % 64) :: (l0.drop (k + 1)).take (2 - 1)).length = 2 := by rw [List.length_cons, hrl]
    have HLN2 := Aside0.mk hln2
    have hmod : numB ((x % 64) :: (l0.drop (k + 1)).take (2 - 1)) = numB ((l0.drop k).take 2) % 16384 := by
      rw [hL, numB_mod _ _ hrest, hrl]; rfl
    have HMOD := Aside0.mk hmod
    have hm1 : 0 ≤ numB ((l0.drop k).take 2) % 16384 ∧ numB ((l0.drop k).take 2) % 16384 < 16384 := ⟨Int.emod_nonneg _ (by decide), Int.emod_lt_of_pos _ (by decide)⟩
    have hwr : wrap64 (numB ((x % 64) :: (l0.drop (k + 1)).take (2 - 1))) = numB ((l0.drop k).take 2) % 16384 := by
      rw [hmod]; unfold wrap64; omega
    have HWR := Aside0.mk hwr
    have hsum : wrap64 ((k : Int) + 2) = (k : Int) + 2 := by unfold wrap64; omega
    have HSUM := Aside0.mk hsum
    clear hlen hset hL hrest hrl hln2 hrn hmod hm1 hwr hsum
    obtain ⟨i0, hi, hz0, hz1, hz2⟩ := info_parts infoR5
    go_enter Tryd.func35, Tryd.ntmps35
    go_wp2_with (first
      | ((with_reducible refine gate_builtin (b := .append) (xs := #[.tmp 34, .tmp 40]) rfl ?_); at_builtin; refine wpList_append_own _ rfl _ _ 22 rfl w.heap.size 5 i0 (.int .u8 0) 1 1 Tryd.underlying22 hi hz0 hz1 hz2 rfl (by decide) _ 0 [] rfl ?c0 (ad.add k) (k + 2 - k) _ (nums .u8 ((l0.drop k).take 2)) rfl ?c1 ?c2 ?c3 ?c4 ?c5 ?c6 ?_; (case c0 => exact World.ownsRow_made w #[] 0 (Nat.le_refl _) (Nat.zero_le _) rfl); (case c1 => rw [show k + 2 - k = 2 from by omega]; unfold nums; rw [List.length_map]; exact HLEN.out); (case c2 => exact fun j u hu => pw_cell_below (below_alloc (Below.refl _ _) _) (cellsR_of HLEN.out HCR.out j u hu)); (case c3 => exact nums_one _ _); (case c4 => unfold maxLen; omega); (case c5 => omega); (case c6 => simp); intro v' w1 hown hgrow _; rw [show 0 + (k + 2 - k) = 2 from by omega, List.nil_append] at hown; have hb0 : Below w.heap.size w w1 := ((below_alloc (Below.refl _ _) (Obj.cells #[] 5)).grown (show (w.alloc (Obj.cells #[] 5)).grownBy w1 (some w.heap.size) from hgrow) (by simp) (fun k hk => Nat.le_of_eq (Option.some.inj hk))); clear hgrow; obtain ⟨g, cap, hve, hg1, hg2⟩ := hown.form (by decide); subst hve; have hcap : 2 ≤ cap := own_cap hown; have HCAP := Aside0.mk hcap; clear hcap; have hRR : Kd.R (Kd.int .u8) 5 w1 w.heap.size (fun _ => True) (.slice (some ⟨g, 0, none⟩) ((l0.drop k).take 2).length cap) ((l0.drop k).take 2) := Kd.R_of_own (by rw [HLEN.out]; exact hown) (fun _ _ => trivial); have HRR := Aside0.mk hRR; obtain ⟨hcl, hfr⟩ := Kd.R_cell (0 : Int) hRR 0 (by decide) (by rw [HLEN.out]; decide); have hrd0 : rdOf (0 : Int) ((l0.drop k).take 2) 0 = x := (by rw [HL.out]; rfl); rw [hrd0] at hcl; clear hrd0 hRR hown; have hcl2 : w1.cell? ⟨g, 0, none⟩ = some (.int .u8 x) := hcl; have hfr2 : w1.frozen? ⟨g, 0, none⟩ = false := hfr; clear hcl hfr; have hput := (Kd.R_put HRR.out (0 : Int) (x % 64)); obtain ⟨hp1, hp2⟩ := hput; have hp3 := (Kd.R_reads' hp1).2.2; have hp4 : Kd.C (Kd.int .u8) (w1.setCell ⟨g, 0, none⟩ (.int .u8 (x % 64))) (some ⟨g, 0, none⟩) (((l0.drop k).take 2).set 0 (x % 64)).length (((l0.drop k).take 2).set 0 (x % 64)) := hp3; rw [List.length_set, HLEN.out, HSET.out] at hp4; have HC2 := Aside0.mk hp4; have hp5 : Below w.heap.size w (w1.setCell ⟨g, 0, none⟩ (.int .u8 (x % 64))) := hb0.grown hp2 (by omega) (fun k hk => by obtain rfl := Option.some.inj hk; exact hg1); have HB := Aside0.mk hp5; clear hb0 hp1 hp2 hp3 hp4 hp5)
      | (go_at_call 48; refine (number_callsN _ _ 2 _ _ HLN2.out HC2.out HCAP.out (by decide) HRN.out).mono ?_; rintro e w' ⟨rfl, rfl⟩))
    go_ret3
    refine ⟨?_, HB.out⟩
    rw [HV.out]
    show Ending.returned (.tuple #[.int .i64 (wrap64 (numB ((x % 64) :: (l0.drop (k + 1)).take (2 - 1)))), .int .i64 ((k : Int) + 2), .int .i64 0]) = _
    rw [HWR.out]

set_option maxHeartbeats 2000000 in
theorem refread_2 (ad : Addr) (c0 : Nat) (l0 : List Int) (k : Nat) (w : World) (hr0 : Kd.C (Kd.int .u8) w (some ad) l0.length l0) (hc0 : l0.length ≤ c0) (hw : ∀ x ∈ l0, 0 ≤ x ∧ x < 256) (hl : l0.length ≤ 140737488355328) (hk : k < l0.length) (hx : rd l0 k / 64 = 2) :
    Calls Tryd.prog 35 #[.slice (some ad) l0.length c0, .int .i64 k] w fun e w' => e = .returned (.tuple #[.int .i64 (vone (l0.drop k) k 4 1073741824).1, .int .i64 (vone (l0.drop k) k 4 1073741824).2.1, .int .i64 (vone (l0.drop k) k 4 1073741824).2.2]) ∧ Below w.heap.size w w' := by
  have HR := Aside0.mk hr0
  have hwk : ∀ x ∈ l0.drop k, 0 ≤ x ∧ x < 256 := fun x hx => hw x (List.mem_of_mem_drop hx)
  have HWK := Aside0.mk hwk
  obtain ⟨ad', e, hcell⟩ := Kd.at_int hr0 (k : Int) (by omega) (by omega)
  obtain rfl := Option.some.inj e
  rw [Int.toNat_natCast] at hcell
  have hgk : rd l0 k = l0[k] := by simp [rd, List.getD_eq_getElem?_getD, List.getElem?_eq_getElem hk]
  have hrng : 0 ≤ rd l0 k ∧ rd l0 k < 256 := by rw [hgk]; exact hw _ (List.getElem_mem hk)
  have hcons : l0.drop k = rd l0 k :: l0.drop (k + 1) := by rw [hgk]; exact List.drop_eq_getElem_cons hk
  have HCONS := Aside0.mk hcons
  clear hr0 hw hwk e hcons hgk
  generalize rd l0 k = x at *
  obtain ⟨x0, x1⟩ := hrng
  have d1 : decide ((k : Int) < 0) = false := by simp
  have d2 : decide ((l0.length : Int) < (k : Int)) = false := by simp; omega
  have d2n : decide (l0.length < k) = false := by simp; omega
  have d3 : ((k : Int) == (l0.length : Int)) = false := by rw [beq_eq_false_iff_ne]; omega
  have d3n : (k == l0.length) = false := by rw [beq_eq_false_iff_ne]; omega
  by_cases hn : l0.length - k < 4
  · have hv : vone (l0.drop k) k 4 1073741824 = (0, 0, 10) := by unfold vone; rw [List.length_drop, if_pos hn]
    have HV := Aside0.mk hv
    clear hv
    have d4 : decide ((l0.length : Int) - (k : Int) < 4) = true := by simp; omega
    go_enter Tryd.func35, Tryd.ntmps35
    go_wp2
    go_ret3
    exact ⟨by rw [HV.out]; rfl, Below.refl _ _⟩
  · have hv : vone (l0.drop k) k 4 1073741824 = (numB ((l0.drop k).take 4) % 1073741824, (k : Int) + 4, 0) := by unfold vone; rw [List.length_drop, if_neg hn]; rfl
    have HV := Aside0.mk hv
    clear hv
    have d4 : decide ((l0.length : Int) - (k : Int) < 4) = false := by simp; omega
    have hn2 : 4 ≤ l0.length - k := by omega
    have hn3 : k + 4 ≤ c0 := by omega
    have hlen : ((l0.drop k).take 4).length = 4 := by rw [List.length_take, List.length_drop]; omega
    have HLEN := Aside0.mk hlen
    have HCR := Aside0.mk (C_drop (n := 4) HR.out (k := k) (by omega))
    have hset : ((l0.drop k).take 4).set 0 (x % 64) = (x % 64) :: (l0.drop (k + 1)).take (4 - 1) := by rw [HCONS.out]; rfl
    have hL : (l0.drop k).take 4 = x :: (l0.drop (k + 1)).take (4 - 1) := by rw [HCONS.out]; rfl
    have HSET := Aside0.mk hset
    have HL := Aside0.mk hL
    have hrest : ∀ y ∈ (l0.drop (k + 1)).take (4 - 1), 0 ≤ y ∧ y < 256 := fun y hy => HWK.out y (by rw [HCONS.out]; exact List.mem_cons_of_mem _ (List.mem_of_mem_take hy))
    have HREST := Aside0.mk hrest
    have hrn : ∀ y ∈ (x % 64) :: (l0.drop (k + 1)).take (4 - 1), 0 ≤ y ∧ y < 256 := by
      intro y hy
      rcases List.mem_cons.1 hy with rfl | hy
      · omega
      · exact hrest y hy
    have HRN := Aside0.mk hrn
    have hrl : ((l0.drop (k + 1)).take (4 - 1)).length = 4 - 1 := by rw [List.length_take, List.length_drop]; omega
    have hln2 : ((x % 64) :: (l0.drop (k + 1)).take (4 - 1)).length = 4 := by rw [List.length_cons, hrl]
    have HLN2 := Aside0.mk hln2
    have hmod : numB ((x % 64) :: (l0.drop (k + 1)).take (4 - 1)) = numB ((l0.drop k).take 4) % 1073741824 := by
      rw [hL, numB_mod _ _ hrest, hrl]; rfl
    have HMOD := Aside0.mk hmod
    have hm1 : 0 ≤ numB ((l0.drop k).take 4) % 1073741824 ∧ numB ((l0.drop k).take 4) % 1073741824 < 1073741824 := ⟨Int.emod_nonneg _ (by decide), Int.emod_lt_of_pos _ (by decide)⟩
    have hwr : wrap64 (numB ((x % 64) :: (l0.drop (k + 1)).take (4 - 1))) = numB ((l0.drop k).take 4) % 1073741824 := by
      rw [hmod]; unfold wrap64; omega
    have HWR := Aside0.mk hwr
    have hsum : wrap64 ((k : Int) + 4) = (k : Int) + 4 := by unfold wrap64; omega
    have HSUM := Aside0.mk hsum
    clear hlen hset hL hrest hrl hln2 hrn hmod hm1 hwr hsum
    obtain ⟨i0, hi, hz0, hz1, hz2⟩ := info_parts infoR5
    go_enter Tryd.func35, Tryd.ntmps35
    go_wp2_with (first
      | ((with_reducible refine gate_builtin (b := .append) (xs := #[.tmp 34, .tmp 40]) rfl ?_); at_builtin; refine wpList_append_own _ rfl _ _ 22 rfl w.heap.size 5 i0 (.int .u8 0) 1 1 Tryd.underlying22 hi hz0 hz1 hz2 rfl (by decide) _ 0 [] rfl ?c0 (ad.add k) (k + 4 - k) _ (nums .u8 ((l0.drop k).take 4)) rfl ?c1 ?c2 ?c3 ?c4 ?c5 ?c6 ?_; (case c0 => exact World.ownsRow_made w #[] 0 (Nat.le_refl _) (Nat.zero_le _) rfl); (case c1 => rw [show k + 4 - k = 4 from by omega]; unfold nums; rw [List.length_map]; exact HLEN.out); (case c2 => exact fun j u hu => pw_cell_below (below_alloc (Below.refl _ _) _) (cellsR_of HLEN.out HCR.out j u hu)); (case c3 => exact nums_one _ _); (case c4 => unfold maxLen; omega); (case c5 => omega); (case c6 => simp); intro v' w1 hown hgrow _; rw [show 0 + (k + 4 - k) = 4 from by omega, List.nil_append] at hown; have hb0 : Below w.heap.size w w1 := ((below_alloc (Below.refl _ _) (Obj.cells #[] 5)).grown (show (w.alloc (Obj.cells #[] 5)).grownBy w1 (some w.heap.size) from hgrow) (by simp) (fun k hk => Nat.le_of_eq (Option.some.inj hk))); clear hgrow; obtain ⟨g, cap, hve, hg1, hg2⟩ := hown.form (by decide); subst hve; have hcap : 4 ≤ cap := own_cap hown; have HCAP := Aside0.mk hcap; clear hcap; have hRR : Kd.R (Kd.int .u8) 5 w1 w.heap.size (fun _ => True) (.slice (some ⟨g, 0, none⟩) ((l0.drop k).take 4).length cap) ((l0.drop k).take 4) := Kd.R_of_own (by rw [HLEN.out]; exact hown) (fun _ _ => trivial); have HRR := Aside0.mk hRR; obtain ⟨hcl, hfr⟩ := Kd.R_cell (0 : Int) hRR 0 (by decide) (by rw [HLEN.out]; decide); have hrd0 : rdOf (0 : Int) ((l0.drop k).take 4) 0 = x := (by rw [HL.out]; rfl); rw [hrd0] at hcl; clear hrd0 hRR hown; have hcl2 : w1.cell? ⟨g, 0, none⟩ = some (.int .u8 x) := hcl; have hfr2 : w1.frozen? ⟨g, 0, none⟩ = false := hfr; clear hcl hfr; have hput := (Kd.R_put HRR.out (0 : Int) (x % 64)); obtain ⟨hp1, hp2⟩ := hput; have hp3 := (Kd.R_reads' hp1).2.2; have hp4 : Kd.C (Kd.int .u8) (w1.setCell ⟨g, 0, none⟩ (.int .u8 (x % 64))) (some ⟨g, 0, none⟩) (((l0.drop k).take 4).set 0 (x % 64)).length (((l0.drop k).take 4).set 0 (x % 64)) := hp3; rw [List.length_set, HLEN.out, HSET.out] at hp4; have HC2 := Aside0.mk hp4; have hp5 : Below w.heap.size w (w1.setCell ⟨g, 0, none⟩ (.int .u8 (x % 64))) := hb0.grown hp2 (by omega) (fun k hk => by obtain rfl := Option.some.inj hk; exact hg1); have HB := Aside0.mk hp5; clear hb0 hp1 hp2 hp3 hp4 hp5)
      | (go_at_call 48; refine (number_callsN _ _ 4 _ _ HLN2.out HC2.out HCAP.out (by decide) HRN.out).mono ?_; rintro e w' ⟨rfl, rfl⟩))
    go_ret3
    refine ⟨?_, HB.out⟩
    rw [HV.out]
    show Ending.returned (.tuple #[.int .i64 (wrap64 (numB ((x % 64) :: (l0.drop (k + 1)).take (4 - 1)))), .int .i64 ((k : Int) + 4), .int .i64 0]) = _
    rw [HWR.out]

set_option maxHeartbeats 2000000 in
theorem refread_3 (ad : Addr) (c0 : Nat) (l0 : List Int) (k : Nat) (w : World) (hr0 : Kd.C (Kd.int .u8) w (some ad) l0.length l0) (hc0 : l0.length ≤ c0) (hw : ∀ x ∈ l0, 0 ≤ x ∧ x < 256) (hl : l0.length ≤ 140737488355328) (hk : k < l0.length) (hx : rd l0 k / 64 = 3) :
    Calls Tryd.prog 35 #[.slice (some ad) l0.length c0, .int .i64 k] w fun e w' => e = .returned (.tuple #[.int .i64 (vone (l0.drop k) k 8 4611686018427387904).1, .int .i64 (vone (l0.drop k) k 8 4611686018427387904).2.1, .int .i64 (vone (l0.drop k) k 8 4611686018427387904).2.2]) ∧ Below w.heap.size w w' := by
  have HR := Aside0.mk hr0
  have hwk : ∀ x ∈ l0.drop k, 0 ≤ x ∧ x < 256 := fun x hx => hw x (List.mem_of_mem_drop hx)
  have HWK := Aside0.mk hwk
  obtain ⟨ad', e, hcell⟩ := Kd.at_int hr0 (k : Int) (by omega) (by omega)
  obtain rfl := Option.some.inj e
  rw [Int.toNat_natCast] at hcell
  have hgk : rd l0 k = l0[k] := by simp [rd, List.getD_eq_getElem?_getD, List.getElem?_eq_getElem hk]
  have hrng : 0 ≤ rd l0 k ∧ rd l0 k < 256 := by rw [hgk]; exact hw _ (List.getElem_mem hk)
  have hcons : l0.drop k = rd l0 k :: l0.drop (k + 1) := by rw [hgk]; exact List.drop_eq_getElem_cons hk
  have HCONS := Aside0.mk hcons
  clear hr0 hw hwk e hcons hgk
  generalize rd l0 k = x at *
  obtain ⟨x0, x1⟩ := hrng
  have d1 : decide ((k : Int) < 0) = false := by simp
  have d2 : decide ((l0.length : Int) < (k : Int)) = false := by simp; omega
  have d2n : decide (l0.length < k) = false := by simp; omega
  have d3 : ((k : Int) == (l0.length : Int)) = false := by rw [beq_eq_false_iff_ne]; omega
  have d3n : (k == l0.length) = false := by rw [beq_eq_false_iff_ne]; omega
  by_cases hn : l0.length - k < 8
  · have hv : vone (l0.drop k) k 8 4611686018427387904 = (0, 0, 10) := by unfold vone; rw [List.length_drop, if_pos hn]
    have HV := Aside0.mk hv
    clear hv
    have d4 : decide ((l0.length : Int) - (k : Int) < 8) = true := by simp; omega
    go_enter Tryd.func35, Tryd.ntmps35
    go_wp2
    go_ret3
    exact ⟨by rw [HV.out]; rfl, Below.refl _ _⟩
  · have hv : vone (l0.drop k) k 8 4611686018427387904 = (numB ((l0.drop k).take 8) % 4611686018427387904, (k : Int) + 8, 0) := by unfold vone; rw [List.length_drop, if_neg hn]; rfl
    have HV := Aside0.mk hv
    clear hv
    have d4 : decide ((l0.length : Int) - (k : Int) < 8) = false := by simp; omega
    have hn2 : 8 ≤ l0.length - k := by omega
    have hn3 : k + 8 ≤ c0 := by omega
    have hlen : ((l0.drop k).take 8).length = 8 := by rw [List.length_take, List.length_drop]; omega
    have HLEN := Aside0.mk hlen
    have HCR := Aside0.mk (C_drop (n := 8) HR.out (k := k) (by omega))
    have hset : ((l0.drop k).take 8).set 0 (x % 64) = (x % 64) :: (l0.drop (k + 1)).take (8 - 1) := by rw [HCONS.out]; rfl
    have hL : (l0.drop k).take 8 = x :: (l0.drop (k + 1)).take (8 - 1) := by rw [HCONS.out]; rfl
    have HSET := Aside0.mk hset
    have HL := Aside0.mk hL
    have hrest : ∀ y ∈ (l0.drop (k + 1)).take (8 - 1), 0 ≤ y ∧ y < 256 := fun y hy => HWK.out y (by rw [HCONS.out]; exact List.mem_cons_of_mem _ (List.mem_of_mem_take hy))
    have HREST := Aside0.mk hrest
    have hrn : ∀ y ∈ (x % 64) :: (l0.drop (k + 1)).take (8 - 1), 0 ≤ y ∧ y < 256 := by
      intro y hy
      rcases List.mem_cons.1 hy with rfl | hy
      · omega
      · exact hrest y hy
    have HRN := Aside0.mk hrn
    have hrl : ((l0.drop (k + 1)).take (8 - 1)).length = 8 - 1 := by rw [List.length_take, List.length_drop]; omega
    have hln2 : ((x % 64) :: (l0.drop (k + 1)).take (8 - 1)).length = 8 := by rw [List.length_cons, hrl]
    have HLN2 := Aside0.mk hln2
    have hmod : numB ((x % 64) :: (l0.drop (k + 1)).take (8 - 1)) = numB ((l0.drop k).take 8) % 4611686018427387904 := by
      rw [hL, numB_mod _ _ hrest, hrl]; rfl
    have HMOD := Aside0.mk hmod
    have hm1 : 0 ≤ numB ((l0.drop k).take 8) % 4611686018427387904 ∧ numB ((l0.drop k).take 8) % 4611686018427387904 < 4611686018427387904 := ⟨Int.emod_nonneg _ (by decide), Int.emod_lt_of_pos _ (by decide)⟩
    have hwr : wrap64 (numB ((x % 64) :: (l0.drop (k + 1)).take (8 - 1))) = numB ((l0.drop k).take 8) % 4611686018427387904 := by
      rw [hmod]; unfold wrap64; omega
    have HWR := Aside0.mk hwr
    have hsum : wrap64 ((k : Int) + 8) = (k : Int) + 8 := by unfold wrap64; omega
    have HSUM := Aside0.mk hsum
    clear hlen hset hL hrest hrl hln2 hrn hmod hm1 hwr hsum
    obtain ⟨i0, hi, hz0, hz1, hz2⟩ := info_parts infoR5
    go_enter Tryd.func35, Tryd.ntmps35
    go_wp2_with (first
      | ((with_reducible refine gate_builtin (b := .append) (xs := #[.tmp 34, .tmp 40]) rfl ?_); at_builtin; refine wpList_append_own _ rfl _ _ 22 rfl w.heap.size 5 i0 (.int .u8 0) 1 1 Tryd.underlying22 hi hz0 hz1 hz2 rfl (by decide) _ 0 [] rfl ?c0 (ad.add k) (k + 8 - k) _ (nums .u8 ((l0.drop k).take 8)) rfl ?c1 ?c2 ?c3 ?c4 ?c5 ?c6 ?_; (case c0 => exact World.ownsRow_made w #[] 0 (Nat.le_refl _) (Nat.zero_le _) rfl); (case c1 => rw [show k + 8 - k = 8 from by omega]; unfold nums; rw [List.length_map]; exact HLEN.out); (case c2 => exact fun j u hu => pw_cell_below (below_alloc (Below.refl _ _) _) (cellsR_of HLEN.out HCR.out j u hu)); (case c3 => exact nums_one _ _); (case c4 => unfold maxLen; omega); (case c5 => omega); (case c6 => simp); intro v' w1 hown hgrow _; rw [show 0 + (k + 8 - k) = 8 from by omega, List.nil_append] at hown; have hb0 : Below w.heap.size w w1 := ((below_alloc (Below.refl _ _) (Obj.cells #[] 5)).grown (show (w.alloc (Obj.cells #[] 5)).grownBy w1 (some w.heap.size) from hgrow) (by simp) (fun k hk => Nat.le_of_eq (Option.some.inj hk))); clear hgrow; obtain ⟨g, cap, hve, hg1, hg2⟩ := hown.form (by decide); subst hve; have hcap : 8 ≤ cap := own_cap hown; have HCAP := Aside0.mk hcap; clear hcap; have hRR : Kd.R (Kd.int .u8) 5 w1 w.heap.size (fun _ => True) (.slice (some ⟨g, 0, none⟩) ((l0.drop k).take 8).length cap) ((l0.drop k).take 8) := Kd.R_of_own (by rw [HLEN.out]; exact hown) (fun _ _ => trivial); have HRR := Aside0.mk hRR; obtain ⟨hcl, hfr⟩ := Kd.R_cell (0 : Int) hRR 0 (by decide) (by rw [HLEN.out]; decide); have hrd0 : rdOf (0 : Int) ((l0.drop k).take 8) 0 = x := (by rw [HL.out]; rfl); rw [hrd0] at hcl; clear hrd0 hRR hown; have hcl2 : w1.cell? ⟨g, 0, none⟩ = some (.int .u8 x) := hcl; have hfr2 : w1.frozen? ⟨g, 0, none⟩ = false := hfr; clear hcl hfr; have hput := (Kd.R_put HRR.out (0 : Int) (x % 64)); obtain ⟨hp1, hp2⟩ := hput; have hp3 := (Kd.R_reads' hp1).2.2; have hp4 : Kd.C (Kd.int .u8) (w1.setCell ⟨g, 0, none⟩ (.int .u8 (x % 64))) (some ⟨g, 0, none⟩) (((l0.drop k).take 8).set 0 (x % 64)).length (((l0.drop k).take 8).set 0 (x % 64)) := hp3; rw [List.length_set, HLEN.out, HSET.out] at hp4; have HC2 := Aside0.mk hp4; have hp5 : Below w.heap.size w (w1.setCell ⟨g, 0, none⟩ (.int .u8 (x % 64))) := hb0.grown hp2 (by omega) (fun k hk => by obtain rfl := Option.some.inj hk; exact hg1); have HB := Aside0.mk hp5; clear hb0 hp1 hp2 hp3 hp4 hp5)
      | (go_at_call 48; refine (number_callsN _ _ 8 _ _ HLN2.out HC2.out HCAP.out (by decide) HRN.out).mono ?_; rintro e w' ⟨rfl, rfl⟩))
    go_ret3
    refine ⟨?_, HB.out⟩
    rw [HV.out]
    show Ending.returned (.tuple #[.int .i64 (wrap64 (numB ((x % 64) :: (l0.drop (k + 1)).take (8 - 1)))), .int .i64 ((k : Int) + 8), .int .i64 0]) = _
    rw [HWR.out]

theorem refread_calls (A0 : Option Addr) (c0 : Nat) (l0 : List Int) (a1 : Int) (w : World) (hr0 : Kd.C (Kd.int .u8) w A0 l0.length l0) (hc0 : l0.length ≤ c0) (hw : ∀ x ∈ l0, 0 ≤ x ∧ x < 256) (hl : l0.length ≤ 140737488355328) :
    Calls Tryd.prog 35 #[.slice A0 l0.length c0, .int .i64 a1] w fun e w' => e = .returned (.tuple #[.int .i64 (varF l0 a1).1, .int .i64 (varF l0 a1).2.1, .int .i64 (varF l0 a1).2.2]) ∧ Below w.heap.size w w' := by
  by_cases h : a1 < 0 ∨ a1 > l0.length
  · have e : varF l0 a1 = (0, 0, 2) := by unfold varF; rw [if_pos h]
    rw [e]
    exact (refread_arg A0 c0 l0 a1 w hc0 hl h).mono (fun _ _ ⟨a, b⟩ => ⟨a, b ▸ Below.refl _ _⟩)
  · by_cases he : a1 = l0.length
    · have e : varF l0 a1 = (0, 0, 10) := by
        unfold varF; rw [if_neg h, if_pos]; rw [he]; simp
      rw [e]
      exact (refread_end A0 c0 l0 a1 w hc0 hl he).mono (fun _ _ ⟨a, b⟩ => ⟨a, b ▸ Below.refl _ _⟩)
    · obtain ⟨k, rfl⟩ := Int.eq_ofNat_of_zero_le (show 0 ≤ a1 by omega)
      have hk : k < l0.length := by omega
      obtain ⟨ad, rfl, _⟩ := Kd.at_int hr0 (k : Int) (by omega) (by omega)
      have hd : ¬ (l0.drop (k : Int).toNat = []) := by simp; omega
      have hrng : 0 ≤ rd l0 k ∧ rd l0 k < 256 := by
        have : rd l0 k = l0[k] := by simp [rd, List.getD_eq_getElem?_getD, List.getElem?_eq_getElem hk]
        rw [this]; exact hw _ (List.getElem_mem hk)
      have hc : rd l0 k / 64 = 0 ∨ rd l0 k / 64 = 1 ∨ rd l0 k / 64 = 2 ∨ rd l0 k / 64 = 3 := by omega
      have e : (k : Int).toNat = k := by omega
      unfold varF
      rw [if_neg h, if_neg hd, e]
      rcases hc with hx | hx | hx | hx
      · rw [if_pos hx]; exact refread_0 ad c0 l0 k w hr0 hc0 hw hl hk hx
      · rw [if_neg (by omega), if_pos hx]; exact refread_1 ad c0 l0 k w hr0 hc0 hw hl hk hx
      · rw [if_neg (by omega), if_neg (by omega), if_pos hx]; exact refread_2 ad c0 l0 k w hr0 hc0 hw hl hk hx
      · rw [if_neg (by omega), if_neg (by omega), if_neg (by omega)]; exact refread_3 ad c0 l0 k w hr0 hc0 hw hl hk hx
end Go.Proofs.YtcidijmdndcdlaaDoor
