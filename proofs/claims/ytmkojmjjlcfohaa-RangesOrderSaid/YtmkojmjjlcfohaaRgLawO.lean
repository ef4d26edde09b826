/- RangesOrder: the law's walk; no condition but the reach of its arguments. -/
import Derived.Test.YtmkojmjjlcfohaaRgRange
import Derived.Sort.CutIn
import Derived.Test.YtmkojmjjlcfohaaRdQuiet
import Derived.Sort.QuietIn
import Derived.Sort.QuietTacIn
import Derived.Sort.BigQuietIn
import Derived.Stop.RegionWithIn
import Derived.Deep.RegionHeld3
set_option linter.unusedVariables false
set_option linter.unusedSimpArgs false
namespace Go.Proofs.Ytmkojmjjlcfohaa.Rg
open Go.RowKit Go.Shelf Go.Proofs.YtmkojmjjlcfohaaW.PrintWords Go.Proofs.YtmkojmjjlcfohaaW.PrintLast Go.Proofs.YtmkojmjjlcfohaaW.PrintMore Go.Proofs.Ytmkojmjjlcfohaa.Rw
attribute [local go_sem] Oper.semAt_some
theorem wrap_m (b : Int) (n : Nat) (hn : 0 < n) (hn1 : (n : Int) ≤ 140737488351232) : wrap64 (b.tmod n + n) = b.tmod n + n := by
  have h1 := Int.lt_tmod_of_pos b (show (0 : Int) < n by omega)
  have h2 := Int.tmod_lt_of_pos b (show (0 : Int) < n by omega)
  unfold wrap64
  omega
theorem wrap_nat (m k : Nat) (h : m + k ≤ 281474976702464) : wrap64 ((m : Int) + k) = m + k := by unfold wrap64; omega
theorem order_idx (b : Int) (n m k : Nat) (hn : 0 < n) (hn1 : (n : Int) ≤ 140737488351232) (hm : m < n) (hk : k < n) (h : Int.tmod (Int.tmod b n + n) n = m) :
    wrap64 ((n : Int) - 1 - (wrap64 ((wrap64 (b.tmod n + n)).tmod n + k)).tmod n) = kap m n k := by
  have h1 := wrap_m b n hn hn1
  have h3 := rem_k m n k hn
  have h4 : kap m n k < n := kap_lt hn
  rw [h1, h, wrap_nat m k (by omega), h3]
  unfold wrap64
  omega
theorem wrap_one (m : Nat) (h : m ≤ 281474976702464) : wrap64 (m : Int) = m := by unfold wrap64; omega
theorem res_one {P : Program} {fn : Func} {p : Tmp} {ty : TypeId} {v : Value} (h : fn.results = #[.cell p ty]) (tmps : Array Value) (w : World) (g : Nat) (hp : tmps.getD p undef = .pointer (some ⟨g, 0, none⟩)) (hu : ∀ w, (isAgg ty).run P w = .ok false w) (hc : w.cell? ⟨g, 0, none⟩ = some v) :
    (results fn tmps).run P w = .ok v w := by
  have hp' : tmps[p]?.getD undef = .pointer (some ⟨g, 0, none⟩) := by simpa using hp
  simp [results, h, hp', asAddr, go_sem, hu, hc]
theorem keep_box {B r : Nat} {W0 W : World} {o : Obj} (hb : Below W0.heap.size W0 W) (h : W0.heap[r]? = some o) : W.heap[r]? = some o := (hb.block r (Array.getElem?_eq_some_iff.1 h).1).trans h
theorem order_same {l : List Sp} {m : Nat} {La Lb : List Sp} (hm : 0 < l.length → m < l.length) (ha : SetOf id l l.length La) (hb : SetOf (kap m l.length) l l.length Lb) : La = Lb := by
  rcases Nat.eq_zero_or_pos l.length with h | h
  · refine ok_unique _ _ ha.1 hb.1 (fun n => ?_)
    rw [ha.2, hb.2]
    constructor <;> (rintro ⟨j, hj, _⟩; omega)
  · exact setOf_same (hm h) ha hb
/-- Loop 1: so many spans are in both. -/
def ORel (W0 : World) (ga gb : Nat) (l : List Sp) (m : Nat) (i : Value) (W : World) : Prop := ∃ (k : Nat) (La Lb : List Sp), k ≤ l.length ∧ i = .int .i64 k ∧ Kst W0 (Two W0.heap.size ga La gb Lb) W ∧ SetOf id l k La ∧ SetOf (kap m l.length) l k Lb
set_option maxRecDepth 100000 in
set_option maxHeartbeats 4000000 in
theorem order_walk (A1 : Option Addr) (l : List Sp) (c1 : Nat) (by_ : Int) (w : World) (hby0 : -9223372036854775808 ≤ by_) (hby : by_ ≤ 9223372036854775807)
    (hlo : ∀ x ∈ l, x.1 ≤ 9223372036854775807 ∧ x.2 ≤ 9223372036854775807) (hr1 : Kd.C spK w A1 l.length l) (hl1 : l.length ≤ 140737488351232) :
    Calls Try.prog 4 #[.slice A1 l.length c1, .int .i64 by_] w fun e w' => e = .returned (.bool true) ∧ Below w.heap.size w w' := by
  refine (callsIn_wide (n := 12)).1 ?_
  have HR1 := Aside0.mk hr1
  have HLO := Aside0.mk hlo
  have hn1 : (l.length : Int) ≤ 140737488351232 := by omega
  clear hr1 hl1 hlo
  refine callsIn_of_wp_marks Try.func4 rfl trivial ?_ rfl
  simp only [Try.ntmps4, List.size_toArray, List.length_cons, List.length_nil, Nat.reduceAdd, Nat.reduceSub, Array.replicate_succ, Array.replicate_zero, List.push_toArray, List.append_toArray, List.nil_append, List.cons_append]
  refine wpIn_wide.2 ?_
  go_upto_region 1 with fail
  have hx0 := heap_alloc_new w (.cells #[.bool false] 4)
  have hbw := below_alloc (Below.refl w.heap.size w) (.cells #[.bool false] 4)
  obtain ⟨W0, hW0⟩ : ∃ W0, w.alloc (.cells #[.bool false] 4) = W0 := ⟨_, rfl⟩
  rw [hW0] at hx0 hbw ⊢
  clear hW0
  have HX0 := Aside0.mk hx0
  have HBW := Aside0.mk hbw
  clear hx0 hbw
  go_wp2_with (first
    | (go_at_call 16; (first | refine ((two_new (w := W0) (by assumption))).mono ?_; rintro e w2 ⟨gb, rfl, hs2⟩; clear hs | refine ((one_new W0 _ (Below.refl _ _))).mono ?_; rintro e w1 ⟨ga, rfl, hs⟩))
    | fail)
  have HS := Aside0.mk hs2
  clear hs2
  have hh1 : hasL [(1, 2)] 2 = true := by decide
  have hh2 : hasL [] 2 = false := by decide
  have HH1 := Aside0.mk hh1
  have HH2 := Aside0.mk hh2
  clear hh1 hh2
  go_wp2_with (first
    | (go_at_call 17; refine ((two_add HS.out 1 2)).mono ?_; rw [addR_first]; rintro e w3 ⟨rfl, hs⟩; have n0 := Aside0.mk hs; clear hs HS; have HS := n0; clear n0)
    | (go_at_call 19; refine ((two_rem HS.out 1 2)).mono ?_; rw [remR_first]; rintro e w3 ⟨rfl, hs⟩; have n0 := Aside0.mk hs; clear hs HS; have HS := n0; clear n0)
    | (go_at_call 18; refine ((one_has (two_rk _ _ _ _ _) HS.out HS.out.r.left 2 (by omega))).mono ?_; (first | rw [HH1.out] | rw [HH2.out]); rintro e w3 ⟨rfl, hs⟩; have n0 := Aside0.mk hs; clear hs HS; have HS := n0; clear n0))
  obtain ⟨m, hm⟩ : ∃ m : Nat, (0 < l.length → m < l.length ∧ Int.tmod (Int.tmod by_ l.length + l.length) l.length = m) := by
    rcases Nat.eq_zero_or_pos l.length with h | h
    · exact ⟨0, fun h' => absurd h' (by omega)⟩
    · obtain ⟨m, h1, h2⟩ := rem_m by_ l.length h
      exact ⟨m, fun _ => ⟨h1, h2⟩⟩
  have HM := Aside0.mk hm
  clear hm
  go_loopw [8, 9, 10, 11] (fun i _ _ _ W => ORel W0 ga gb l m i W) (fun i _ _ _ _ => l.length - (intOf i).toNat)
  case atStart => exact ⟨0, [], [], by omega, rfl, HS.out, setOf_nil _ _, setOf_nil _ _⟩
  case round =>
    clear HS
    obtain ⟨k, La, Lb, hk, rfl, hs, ha, hb⟩ := hrel
    have HS := Aside0.mk hs
    have HA := Aside0.mk ha
    have HB := Aside0.mk hb
    clear hs ha hb
    by_cases hlt : k < l.length
    · obtain ⟨hm1, hm2⟩ := HM.out (by omega)
      have hne : (l.length : Int) ≠ 0 := by omega
      have hk1 : (k : Int) < (l.length : Int) := by omega
      have hox := Aside0.mk (order_idx by_ l.length m k (by omega) hn1 hm1 hlt hm2)
      obtain ⟨kk, hkk⟩ : ∃ kk, kk = kap m l.length k := ⟨_, rfl⟩
      have hkl : kk < l.length := by rw [hkk]; exact kap_lt (by omega)
      have HKK := Aside0.mk hkk
      have hkl1 : (kk : Int) < (l.length : Int) := Int.ofNat_lt.2 hkl
      clear hkk hm2
      obtain ⟨x, hx⟩ : ∃ x, l[k]? = some x := ⟨_, List.getElem?_eq_getElem hlt⟩
      obtain ⟨y, hy⟩ : ∃ y, l[kk]? = some y := ⟨_, List.getElem?_eq_getElem hkl⟩
      obtain ⟨ad, hA1, g0, g1⟩ := came_span HR1.out hx
      obtain ⟨ad', hA1', g2, g3⟩ := came_span HR1.out hy
      subst hA1
      obtain rfl : ad = ad' := by injection hA1'
      have e0 := pw_cell_below HS.out.bel (pw_cell_below HBW.out g0)
      have e1 := pw_cell_below HS.out.bel (pw_cell_below HBW.out g1)
      have e2 := pw_cell_below HS.out.bel (pw_cell_below HBW.out g2)
      have e3 := pw_cell_below HS.out.bel (pw_cell_below HBW.out g3)
      have HG := Aside0.mk (And.intro g0 (And.intro g1 (And.intro g2 g3)))
      rw [add_field _ _ _ (by decide)] at e1 e3
      have HXX := Aside0.mk hx
      have HYY := Aside0.mk hy
      clear g0 g1 g2 g3 hx hy
      clear hA1'
      go_upto_region 9 with fail
      rw [hox.out, ← HKK.out]
      go_region_held3 (fun w' => w'.cell? (ad.add (k * 2)) = some (.int .i64 x.1) ∧ w'.cell? ⟨(ad.add (k * 2)).block, (ad.add (k * 2)).off + 1, none⟩ = some (.int .i64 x.2) ∧ w'.cell? (ad.add (kk * 2)) = some (.int .i64 y.1) ∧ w'.cell? ⟨(ad.add (kk * 2)).block, (ad.add (kk * 2)).off + 1, none⟩ = some (.int .i64 y.2)) (first | exact ⟨e0, e1, e2, e3⟩ | (simp [go_sem, *]; done))
        (first
          | (go_at_call 17; with_reducible refine (two_add (show Kst W0 (Two W0.heap.size ga La gb Lb) _ from by first | exact HS.out | exact HS.out.below (two_rk _ _ _ _ _) (Below.refl _ _).drew | exact HS.out.below (two_rk _ _ _ _ _) (bl_drewN _)) x.1 x.2).mono ?_; rintro e w4 ⟨rfl, hs⟩; have n0 := Aside0.mk hs; clear hs HS e0 e1 e2 e3; have HS := n0; clear n0; have e0 := pw_cell_below HS.out.bel (pw_cell_below HBW.out HG.out.1); have e1 := pw_cell_below HS.out.bel (pw_cell_below HBW.out HG.out.2.1); have e2 := pw_cell_below HS.out.bel (pw_cell_below HBW.out HG.out.2.2.1); have e3 := pw_cell_below HS.out.bel (pw_cell_below HBW.out HG.out.2.2.2); rw [add_field _ _ _ (by decide)] at e1 e3)
          | (go_at_call 17; with_reducible refine (two_add2 (show Kst W0 (Two W0.heap.size ga (addR La x.1 x.2).2 gb Lb) _ from by first | exact HS.out | exact HS.out.below (two_rk _ _ _ _ _) (Below.refl _ _).drew | exact HS.out.below (two_rk _ _ _ _ _) (bl_drewN _)) y.1 y.2).mono ?_; rintro e w5 ⟨rfl, hs⟩; have n0 := Aside0.mk hs; clear hs HS e0 e1 e2 e3; have HS := n0; clear n0; have e0 := pw_cell_below HS.out.bel (pw_cell_below HBW.out HG.out.1); have e1 := pw_cell_below HS.out.bel (pw_cell_below HBW.out HG.out.2.1); have e2 := pw_cell_below HS.out.bel (pw_cell_below HBW.out HG.out.2.2.1); have e3 := pw_cell_below HS.out.bel (pw_cell_below HBW.out HG.out.2.2.2); rw [add_field _ _ _ (by decide)] at e1 e3))
      clear e0 e1 e2 e3
      obtain ⟨c, hc⟩ : ∃ c, c = (addR La x.1 x.2).1 := ⟨_, rfl⟩
      obtain ⟨d, hd⟩ : ∃ d, d = (addR Lb y.1 y.2).1 := ⟨_, rfl⟩
      rw [← hc, ← hd]
      have HC := Aside0.mk hc
      have HD := Aside0.mk hd
      have hres : wr = wr := rfl
      clear hc hd hres
      have hr1 : Boxed _ w.heap.size 4 (.bool false) := keep_box (B := 0) HS.out.bel HX0.out
      have r0 := hr1.cell
      have r1 := hr1.frozen
      have HRB := Aside0.mk hr1
      clear hr1
      by_cases hc3 : c = 3
      · subst hc3
        go_wp2_with fail
        exact ⟨_, res_one rfl _ _ w.heap.size rfl (fun _ => by kernel_rfl) (HRB.out.set (.bool true)).cell, rfl, (HBW.out.trans (HS.out.bel.mono HBW.out.size)).setCell (p := ⟨w.heap.size, 0, none⟩) (Nat.le_refl _) _⟩
      · by_cases hd3 : d = 3
        · subst hd3
          go_wp2_with fail
          exact ⟨_, res_one rfl _ _ w.heap.size rfl (fun _ => by kernel_rfl) (HRB.out.set (.bool true)).cell, rfl, (HBW.out.trans (HS.out.bel.mono HBW.out.size)).setCell (p := ⟨w.heap.size, 0, none⟩) (Nat.le_refl _) _⟩
        · have hcb : (c == 3) = false := by simp [hc3]
          have hdb : (d == 3) = false := by simp [hd3]
          go_wp2_with fail
          all_goals try exact absurd (by assumption) hd3
          case roundEnd => exact ⟨⟨k + 1, _, _, by omega, by simp, HS.out, setOf_add HA.out HXX.out (by rw [← HC.out]; exact hc3), setOf_add HB.out (by rw [← HKK.out]; exact HYY.out) (by rw [← HD.out]; exact hd3)⟩, by simp [intOf]; omega⟩
    · obtain rfl : k = l.length := by omega
      obtain rfl : La = Lb := order_same (fun h => (HM.out h).1) HA.out HB.out
      have heq : ∀ (b : Nat) (W : World), (binOp .eql 42 (.func (.func 44) #[] #[.pointer (some ⟨b, 0, none⟩)]) .nilFunc).run Try.prog W = .ok (.bool false) W := fun _ _ => by kernel_rfl
      go_wp2_with (first
        | (go_at_call 20; with_reducible refine (one_spans (two_rk _ _ _ _ _) HS.out HS.out.r.left).mono ?_; rintro e w6 ⟨rfl, hs⟩; have n0 := Aside0.mk hs; clear hs HS; have HS := n0; clear n0)
        | (go_at_call 20; with_reducible refine (one_spans (two_rk _ _ _ _ _) HS.out HS.out.r.right).mono ?_; rintro e w6 ⟨rfl, hs⟩; have n0 := Aside0.mk hs; clear hs HS; have HS := n0; clear n0)
        | (go_at_call 21; refine (all_s _ _).mono ?_; rintro e w7 ⟨rfl, hw7⟩; have n0 := Aside0.mk (HS.out.below (two_rk _ _ _ _ _) (below_alloc (Below.refl _ _) (.cells #[.pointer (some ⟨ga, 0, none⟩)] 34))); rw [← hw7] at n0; clear hw7 HS; have HS := n0; clear n0)
        | (go_at_call 21; refine (all_s _ _).mono ?_; rintro e w7 ⟨rfl, hw7⟩; have n0 := Aside0.mk (HS.out.below (two_rk _ _ _ _ _) (below_alloc (Below.refl _ _) (.cells #[.pointer (some ⟨gb, 0, none⟩)] 34))); rw [← hw7] at n0; clear hw7 HS; have HS := n0; clear n0))
      have hl0 : Boxed (w6.alloc (.cells #[.slice none 0 0] 33)) w6.heap.size 33 (.slice none 0 0) := Boxed.new w6 _ _
      have n0 := HS.out.below (two_rk _ _ _ _ _) (below_alloc (Below.refl _ _) (.cells #[.slice none 0 0] 33))
      have hws := HS.out.bel.size
      generalize w6.alloc (.cells #[.slice none 0 0] 33) = W7 at hl0 n0 ⊢
      generalize w6.heap.size = X at hl0 hws ⊢
      clear HS
      have HS := Aside0.mk n0
      have HL0 := Aside0.mk hl0
      clear n0 hl0
      refine (all_s _ _).mono ?_
      rintro e w8 ⟨rfl, hw8⟩
      have hb8 : Boxed w8 W7.heap.size 34 (.pointer (some ⟨ga, 0, none⟩)) := by rw [hw8]; exact Boxed.new W7 _ _
      have n0 := HS.out.below (two_rk _ _ _ _ _) (below_alloc (Below.refl _ _) (.cells #[.pointer (some ⟨ga, 0, none⟩)] 34))
      have hl8 := HL0.out.alloc (.cells #[.pointer (some ⟨ga, 0, none⟩)] 34)
      rw [← hw8] at n0 hl8
      clear hw8 HS HL0
      have HS := Aside0.mk n0
      have HL0 := Aside0.mk hl8
      have HB8 := Aside0.mk hb8
      clear n0 hl8 hb8 heq
      go_wp2_with fail
      obtain ⟨va, vb, hsa, hsb, hne, hap⟩ := HS.out.r
      have HSA := Aside0.mk hsa
      have hfew : (La.length : Int) ≤ 65536 := by have := hsa.few; omega
      clear hsa hsb hne hap
      have HLV := Aside0.mk (lift_val La HSA.out.ok)
      have HXX : Aside0 (∀ x, some X = some x → x < w8.heap.size ∧ ∀ A m c, w8.cell? ⟨x, 0, none⟩ = some (.slice (some A) m c) → A.block < w8.heap.size) := ⟨by
        rintro x hx
        cases hx
        refine ⟨HL0.out.lt, fun A m c h => ?_⟩
        rw [HL0.out.cell] at h
        cases h⟩
      refine (wpIn_wide (n := 12)).1 ?_
      refine range_sp 14 rfl (by omega) rfl trivial (enters_of Try.func44 (by kernel_rfl) rfl)
        (seq_all (some X) _ (by omega) w8 _ W0.heap.size ga va La (lift La HSA.out.ok) HLV.out HB8.out.cell HSA.out HXX.out) Kp.t (Kp.b (fun x hx => (HXX.out x hx).1))
        (ListI w8 X) listI_own ⟨BelX.refl _ _, _, HL0.out, ?row0⟩ (fun pre W h => h.1.size) (fun pre W W' h hb => h.below hb) (fun W W' hs hb => Kp.below hb (fun x hx => Nat.lt_of_lt_of_le (HXX.out x hx).1 hs)) ?assign ?body ?done
      case row0 => exact ⟨by simp [cells], .inl ⟨rfl, rfl⟩⟩
      case assign =>
        intro l' x W K hk
        have HK := Aside0.mk hk
        clear hk
        simp only [List.setIfInBounds_toArray, List.set_cons_succ, List.set_cons_zero, TB] at HK ⊢
        gi_wp2
        exact HK.out
      case body =>
        intro l' pre x B W hB hi hBx hp
        obtain ⟨hbX, vL, hvL, hrow⟩ := hi
        have c0 : W.cell? ⟨B, 0, none⟩ = some (.int .i64 x.1.1) := by rw [cell_of_row W B _ _ _ _ hBx]; rfl
        have c1' : W.cell? ⟨B, 1, none⟩ = some (.int .i64 x.1.2) := by rw [cell_of_row W B _ _ _ _ hBx]; rfl
        obtain ⟨AL, nL, rfl, _⟩ := row_form hrow
        have x0 := hvL.cell
        have x1 := hvL.frozen
        have HBX := Aside0.mk hbX
        have HVL := Aside0.mk hvL
        have HRW := Aside0.mk hrow
        have hpl : pre.length + 1 ≤ 1099511627776 := by
          have h1 := congrArg List.length HLV.out
          rw [List.length_map] at h1
          omega
        clear hbX hvL hrow hBx
        simp only [List.setIfInBounds_toArray, List.set_cons_succ, List.set_cons_zero, TB]
        gi_wp2_with (gi_at_builtin; refine wpListIn_append_span (w0 := W) (W := W) w8.heap.size rfl _ _ rfl (.slice AL pre.length nL) (pre.map (·.1)) x.1 rfl W.heap.size rfl rfl _ HRW.out (Below.refl _ _) HBX.out.size hpl ?_; intro v2 w2 h1 h2 hg h3; obtain ⟨AL2, nL2, rfl, _⟩ := row_form h1; have HST := Aside0.mk (list_step HBX.out HVL.out HRW.out HL0.out.lt h1 h2 hg h3); have hv2 : Boxed w2 X 33 _ := (h2.block X HL0.out.lt).trans HVL.out; clear x0 x1; have x0 := hv2.cell; have x1 := hv2.frozen; clear h1 h2 hg h3 hv2)

        exact HST.out
      case done =>
        intro D xs W hD hxs hi hK
        obtain ⟨hbX, vL, hvL, hrow⟩ := hi
        obtain ⟨AL, nL, rfl, _⟩ := row_form hrow
        have n0 := hbX.kst HS.out HL0.out hws
        have hws2 := hbX.size
        have hxl : xs.map (·.1) = La := by rw [hxs]; exact HLV.out
        obtain rfl : xs = lift La HSA.out.ok := hxs
        have HVL := Aside0.mk hvL
        have HRW := Aside0.mk hrow
        have HBX := Aside0.mk hbX
        have HK := Aside0.mk hK
        have HXL := Aside0.mk hxl
        clear HS hbX hvL hrow hK hxl
        have HS := Aside0.mk n0
        clear n0

        gi_step
        gi_step
        obtain ⟨I0, hI0⟩ : ∃ I0, W.heap.size = I0 := ⟨_, rfl⟩
        go_wp2_with (go_at_call 21; refine (all_s _ _).mono ?_; rintro e w9 ⟨rfl, hw9⟩)
        have hb9 : Below W.heap.size W w9 := by rw [hw9]; exact ((below_alloc (Below.refl _ W) _).alloc (by simp) _).alloc (by simp; omega) _
        have hs9 : w9.heap.size = I0 + 3 := by rw [hw9]; simp; omega
        have hI9 : Boxed w9 I0 3 (.int .i64 0) := by rw [hw9, ← hI0]; exact ((Boxed.new W _ _).alloc _).alloc _
        have hJ9 : Boxed w9 (I0 + 1) 3 (.int .i64 (-2)) := by
          have h := Boxed.new (W.alloc (.cells #[.int .i64 0] 3)) 3 (.int .i64 (-2))
          rw [World.size_alloc, hI0] at h
          rw [hw9]
          exact h.alloc _
        have hB9 : Boxed w9 (I0 + 2) 34 (.pointer (some ⟨gb, 0, none⟩)) := by
          have h := Boxed.new ((W.alloc (.cells #[.int .i64 0] 3)).alloc (.cells #[.int .i64 (-2)] 3)) 34 (.pointer (some ⟨gb, 0, none⟩))
          rw [World.size_alloc, World.size_alloc, hI0] at h
          rw [hw9]
          exact h
        rw [← hw9]
        clear hw9
        have hXI : X < I0 := by have := HVL.out.lt; omega
        obtain ⟨vb', hsb'⟩ := (HS.out.below (two_rk _ _ _ _ _) hb9).r.right
        have n0 := HS.out.below (two_rk _ _ _ _ _) hb9
        clear HS
        have HS := Aside0.mk n0
        have HSB := Aside0.mk hsb'
        have HI9 := Aside0.mk hI9
        have HJ9 := Aside0.mk hJ9
        have HB9 := Aside0.mk hB9
        have HBB := Aside0.mk hb9
        have HI0 := Aside0.mk hI0
        have HS9 := Aside0.mk hs9
        clear n0 hsb' hI9 hJ9 hB9 hb9 hI0 hs9
        have hll : (lift La HSA.out.ok).length = La.length := by have := congrArg List.length HLV.out; rwa [List.length_map] at this
        rw [hll] at HVL HRW
        have HLL := Aside0.mk hll
        clear hll
        refine (wpIn_wide (n := 12)).1 ?_
        refine range_sp2 17 rfl (by omega) rfl trivial (enters_of Try.func44 (by kernel_rfl) rfl)
          (seq_all none _ (by omega) w9 (I0 + 2) W0.heap.size gb vb' La (lift La HSA.out.ok) HLV.out HB9.out.cell HSB.out (fun x hx => nomatch hx)) Kp.t (Kp.b (fun x hx => nomatch hx))
          (CountI w9 I0 (I0 + 1)) (fun _ pre _ => ¬ pre <+: lift La HSA.out.ok) (fun c xs A C row h _ _ => h) countI_own ⟨BelXY.refl _ _ _, HI9.out, HJ9.out⟩ (fun pre W h => h.1.size) (fun pre W W' h hb => h.below hb) (fun W W' hs hb => Kp.below hb (fun x hx => nomatch hx)) ?assign2 ?body2 ?done2 ?stop2
        case assign2 =>
          intro l' x W2 K hk
          have HK2 := Aside0.mk hk
          clear hk
          simp only [List.setIfInBounds_toArray, List.set_cons_succ, List.set_cons_zero, TB] at HK2 ⊢
          gi_wp2
          exact HK2.out
        case stop2 =>
          intro D c pre W2 _ hp hn _
          exact absurd hp hn
        case body2 =>
          intro l' pre x B W2 hB hi hBx hp
          have hplt : pre.length < La.length := by rw [← HLL.out]; exact hp
          obtain ⟨y, hy⟩ : ∃ y, La[pre.length]? = some y := ⟨_, List.getElem?_eq_getElem hplt⟩
          have c0 : W2.cell? ⟨B, 0, none⟩ = some (.int .i64 x.1.1) := by rw [cell_of_row W2 B _ _ _ _ hBx]; rfl
          have c1' : W2.cell? ⟨B, 1, none⟩ = some (.int .i64 x.1.2) := by rw [cell_of_row W2 B _ _ _ _ hBx]; rfl
          have ci := hi.2.1.cell
          have fi := hi.2.1.frozen
          have cj := hi.2.2.cell
          have fj := hi.2.2.frozen
          have hold : ∀ k, k < I0 → W2.heap[k]? = W.heap[k]? := fun k hk => by
            have h1 := HS9.out
            have h2 := HI0.out
            exact (hi.1.block k (by omega) (by omega) (by omega)).trans (HBB.out.block k (by omega))
          have cx : W2.cell? ⟨X, 0, none⟩ = some (.slice AL La.length nL) := (World.cell?_of_block (a := ⟨X, 0, none⟩) (hold X hXI)).trans HVL.out.cell
          obtain ⟨gl, cl, hvl, hcl1, hcl2, a0, a1⟩ := row_at (L := La) (by have := HRW.out; rw [HXL.out] at this; exact this) pre.length y hy
          injection hvl with hv1 _ hv2
          subst hv1; subst hv2
          have hgl : gl < I0 := by
            rcases HRW.out.2 with ⟨hh, _⟩ | ⟨g', c, cur, hv, hb', hgg, r⟩
            · cases hh
            · injection hv with hv
              injection hv with hv
              injection hv with hv
              have := (Array.getElem?_eq_some_iff.1 hgg).1
              have := HI0.out
              omega
          have l0 : W2.cell? ⟨gl, pre.length * 2, none⟩ = some (.int .i64 y.1) := (World.cell?_of_block (a := ⟨gl, _, none⟩) (hold gl hgl)).trans a0
          have l1 : W2.cell? ⟨gl, pre.length * 2 + 1, none⟩ = some (.int .i64 y.2) := (World.cell?_of_block (a := ⟨gl, _, none⟩) (hold gl hgl)).trans a1
          have hlast := lastOf_range pre
          have hx2 := x.2
          obtain ⟨q, hq⟩ : ∃ q, lastOf pre = q := ⟨_, rfl⟩
          have hneq : ∀ W', (binOp .neq 39 (.agg #[.int .i64 x.1.1, .int .i64 x.1.2]) (.agg #[.int .i64 y.1, .int .i64 y.2])).run Try.prog W' = .ok (.bool (!(x.1.1 == y.1 && x.1.2 == y.2))) W' := fun W' => neq_span _ _ _ _ W'
          have HNF := Aside0.mk (fun hp : pre ++ [x] <+: lift La HSA.out.ok => next_first HSA.out.ok HLV.out hp)
          have HHI := Aside0.mk hi
          have HBX2 := Aside0.mk hBx
          have HY := Aside0.mk hy
          have HQ := Aside0.mk hq
          rw [hq] at cj hlast
          have hw0 : w.heap.size < W0.heap.size := (Array.getElem?_eq_some_iff.1 HX0.out).1
          have HR0 : Aside0 (∀ W', BelXY I0 (I0 + 1) w9 W' → Boxed W' w.heap.size 4 (.bool false)) := ⟨fun W' hW' => by
            have h1 := HS.out.bel.size
            exact (hW'.block _ (by omega) (by omega) (by omega)).trans ((HS.out.bel.block _ hw0).trans HX0.out)⟩
          have hr0 := HR0.out W2 hi.1
          have hlt1 : (pre.length : Int) < La.length := by omega
          have hs9 := HS9.out
          clear hi hy hq hBx hp hold a0 a1 hr0
          simp only [List.setIfInBounds_toArray, List.set_cons_succ, List.set_cons_zero, TB]
          have d1 : decide ((La.length : Int) ≤ (pre.length : Int)) = false := by simp; omega
          have d2 : decide (La.length ≤ pre.length) = false := by simp; omega
          have d3 : decide (x.1.2 < x.1.1) = false := by simp; omega
          by_cases hc1 : (x.1.1 == y.1 && x.1.2 == y.2) = true
          · by_cases hc2 : x.1.1 < q + 2
            · have d4 : decide (x.1.1 < q + 2) = true := by simpa using hc2
              have hno : ¬ (pre ++ [x] <+: lift La HSA.out.ok) := fun hp => by have := (HNF.out hp).2; rw [HQ.out] at this; omega
              rw [hc1] at hneq
              gi_upto_region 23 with fail
              refine Rq.wpIn_quiet_round (by kernel_rfl) (by kernel_rfl) (by kernel_rfl) ?_
              repeat (gi_big_quiet_step (fail))
              refine wpQuietIn_nil ?_
              rintro _ ⟨nq, rfl⟩
              obtain ⟨W3, hW3⟩ : ∃ W3, W2.drewN nq = W3 := ⟨_, rfl⟩
              have hbd : Below W2.heap.size W2 W3 := by rw [← hW3]; exact bl_drewN nq
              have hi3 := HHI.out.below hbd
              rw [hW3]
              clear hW3 ci fi cj fj cx l0 l1 c0 c1'
              have r0 := (HR0.out W3 hi3.1).cell
              have r1 := (HR0.out W3 hi3.1).frozen
              have HBD := Aside0.mk hbd
              clear hbd hi3 hneq d1 d2 d3
              gi_wp2
              exact ⟨(keeps_below HBD.out).trans ⟨by simp [World.setCell], fun k o hk ho _ => (Below.heap_setCell W3 ⟨w.heap.size, 0, none⟩ _ k (by simp only; omega)).trans ho⟩, hno⟩
            · have d4 : decide (x.1.1 < q + 2) = false := by simpa using hc2
              rw [hc1] at hneq
              gi_upto_region 23 with fail
              refine Rq.wpIn_quiet_round (by kernel_rfl) (by kernel_rfl) (by kernel_rfl) ?_
              repeat (gi_big_quiet_step (fail))
              refine wpQuietIn_nil ?_
              rintro _ ⟨nq, rfl⟩
              obtain ⟨W3, hW3⟩ : ∃ W3, W2.drewN nq = W3 := ⟨_, rfl⟩
              have hbd : Below W2.heap.size W2 W3 := by rw [← hW3]; exact bl_drewN nq
              have hi3 := HHI.out.below hbd
              rw [hW3]
              clear hW3 ci fi cj fj cx l0 l1 c0 c1'
              have c1' : W3.cell? ⟨B, 1, none⟩ = some (.int .i64 x.1.2) := (World.cell?_of_block (a := ⟨B, 1, none⟩) (hbd.block B (Array.getElem?_eq_some_iff.1 HBX2.out).1)).trans (by rw [cell_of_row W2 B _ _ _ _ HBX2.out]; rfl)
              have ci := hi3.2.1.cell
              have fi := hi3.2.1.frozen
              have cj := hi3.2.2.cell
              have fj := hi3.2.2.frozen
              rw [HQ.out] at cj
              have HBD := Aside0.mk hbd
              have HI3 := Aside0.mk hi3
              have hpl : (pre.length : Int) + 1 ≤ 65536 := by omega
              have hb1 : I0 < w9.heap.size := by omega
              have hb2 : I0 + 1 < w9.heap.size := by omega
              clear hbd hi3 hneq d1 d2 d3 d4 hc1 hc2 hs9 hlast hx2 hw0
              gi_upto_region 25 with fail
              gi_upto_region 26 with fail
              gi_wp2
              obtain ⟨k1, k2, k3⟩ := count_step x HI3.out (by omega) (by omega) (by omega)
              exact ⟨(keeps_below HBD.out).trans k1, (Kp.below (X := none) HBD.out (fun _ hx => nomatch hx)).t k2, k3⟩
          · have hno : ¬ (pre ++ [x] <+: lift La HSA.out.ok) := fun hp => by
              have h := (HNF.out hp).1
              rw [HY.out] at h
              injection h with h
              rw [← h] at hc1
              simp at hc1
            have hc1' : (x.1.1 == y.1 && x.1.2 == y.2) = false := by simpa using hc1
            rw [hc1'] at hneq
            gi_upto_region 23 with fail
            refine Rq.wpIn_quiet_round (by kernel_rfl) (by kernel_rfl) (by kernel_rfl) ?_
            repeat (gi_big_quiet_step (fail))
            refine wpQuietIn_nil ?_
            rintro _ ⟨nq, rfl⟩
            obtain ⟨W3, hW3⟩ : ∃ W3, W2.drewN nq = W3 := ⟨_, rfl⟩
            have hbd : Below W2.heap.size W2 W3 := by rw [← hW3]; exact bl_drewN nq
            have hi3 := HHI.out.below hbd
            rw [hW3]
            clear hW3 ci fi cj fj cx l0 l1 c0 c1'
            have r0 := (HR0.out W3 hi3.1).cell
            have r1 := (HR0.out W3 hi3.1).frozen
            have HBD := Aside0.mk hbd
            clear hbd hi3 hneq d1 d2 d3
            gi_wp2
            exact ⟨(keeps_below HBD.out).trans ⟨by simp [World.setCell], fun k o hk ho _ => (Below.heap_setCell W3 ⟨w.heap.size, 0, none⟩ _ k (by simp only; omega)).trans ho⟩, hno⟩
        case done2 =>
          intro D2 xs2 W2 hD2 hxs2 hi2 hK2
          obtain rfl : xs2 = lift La HSA.out.ok := hxs2
          have hks := hi2.1.kst HS.out HI9.out HJ9.out (by omega) (by omega)
          have hw0 : w.heap.size < W0.heap.size := (Array.getElem?_eq_some_iff.1 HX0.out).1
          have hr0 : Boxed W2 w.heap.size 4 (.bool false) := by
            have h1 := HS.out.bel.size
            exact (hi2.1.block _ (by omega) (by omega) (by omega)).trans ((HS.out.bel.block _ hw0).trans HX0.out)
          have hdlt : D < I0 := by
            have h1 := (Array.getElem?_eq_some_iff.1 HK.out).1
            have h2 := HI0.out
            omega
          have hD1 : W2.heap[D]? = some (.deferred (some [])) := by
            have h2 := HI0.out
            have h3 := HS9.out
            exact (hi2.1.block _ (by omega) (by omega) (by omega)).trans ((HBB.out.block _ (by omega)).trans HK.out)
          have hic := hi2.2.1
          rw [HLL.out] at hic
          have hlow : ∀ x ∈ l, x.1 ≤ 9223372036854775807 ∧ x.2 ≤ 9223372036854775807 := HLO.out
          have HKS := Aside0.mk hks
          have HR0 := Aside0.mk hr0
          have HD1 := Aside0.mk hD1
          have HD2 := Aside0.mk hK2
          have HIC := Aside0.mk hic
          clear hks hw0 hr0 hdlt hD1 hic hi2 hK2 hlow
          gi_step
          gi_step
          go_wp2_with fail
          go_loopw [18] (fun i W => ∃ k : Nat, k ≤ l.length ∧ i = .int .i64 k ∧ Below W2.heap.size W2 W) (fun i _ => l.length - (intOf i).toNat)
          case atStart => exact ⟨0, Nat.zero_le _, rfl, Below.refl _ _⟩
          case round =>
            obtain ⟨k, hk, rfl, hbl⟩ := hrel
            have HBL := Aside0.mk hbl
            by_cases hlt : k < l.length
            · obtain ⟨x, hx⟩ : ∃ x, l[k]? = some x := ⟨_, List.getElem?_eq_getElem hlt⟩
              obtain ⟨ad, hA1, g0, g1⟩ := came_span HR1.out hx
              subst hA1
              have hk1 : (k : Int) < (l.length : Int) := by omega
              have hlow := HLO.out x (List.mem_of_getElem? hx)
              have e0 := pw_cell_below HBL.out (pw_cell_below HKS.out.bel (pw_cell_below HBW.out g0))
              have e1 := pw_cell_below HBL.out (pw_cell_below HKS.out.bel (pw_cell_below HBW.out g1))
              rw [add_field _ _ _ (by decide)] at e1
              have HG := Aside0.mk (And.intro g0 g1)
              have HXX2 := Aside0.mk hx
              clear g0 g1 hx hbl
              by_cases hb : bad x.1 x.2 = true
              · by_cases q0 : 0 ≤ x.1
                · by_cases q1 : x.2 ≤ 4611686018427387903
                  · have q2 : ¬ x.1 ≤ x.2 := fun h => by simp [bad] at hb; omega
                    have d0 : decide ((0 : Int) ≤ x.1) = true := by simp; omega
                    have d1 : decide (x.2 ≤ 4611686018427387903) = true := by simp; omega
                    have d2 : decide (x.1 ≤ x.2) = false := by simp; omega
                    clear hb q0 q1 q2
                    go_upto_region 30 with fail
                    go_quiet (fail)
                    go_wp2_with fail
                    exact ⟨⟨k + 1, by omega, by simp, HBL.out.trans ((bl_drewN _).mono HBL.out.size)⟩, by simp [intOf]; omega⟩
                  · have d0 : decide ((0 : Int) ≤ x.1) = true := by simp; omega
                    have d1 : decide (x.2 ≤ 4611686018427387903) = false := by simp; omega
                    clear hb q0 q1
                    go_upto_region 30 with fail
                    go_quiet (fail)
                    go_wp2_with fail
                    exact ⟨⟨k + 1, by omega, by simp, HBL.out.trans ((bl_drewN _).mono HBL.out.size)⟩, by simp [intOf]; omega⟩
                · have d0 : decide ((0 : Int) ≤ x.1) = false := by simp; omega
                  clear hb q0
                  go_upto_region 30 with fail
                  go_quiet (fail)
                  go_wp2_with fail
                  exact ⟨⟨k + 1, by omega, by simp, HBL.out.trans ((bl_drewN _).mono HBL.out.size)⟩, by simp [intOf]; omega⟩
              · obtain ⟨q0, q1, q2⟩ := not_bad hb
                have d0 : decide ((0 : Int) ≤ x.1) = true := by simp; omega
                have d1 : decide (x.2 ≤ 4611686018427387903) = true := by simp; omega
                have d2 : decide (x.1 ≤ x.2) = true := by simp; omega
                have HH := Aside0.mk (setOf_has HA.out HXX2.out (by simpa using hb))
                obtain ⟨va2, hsa2⟩ := HKS.out.r.left
                have HSA2 := Aside0.mk hsa2
                clear hsa2 hb
                go_upto_region 30 with fail
                go_region_held3 (fun w' => w'.cell? (ad.add (k * 2)) = some (.int .i64 x.1) ∧ w'.cell? ⟨(ad.add (k * 2)).block, (ad.add (k * 2)).off + 1, none⟩ = some (.int .i64 x.2)) (first | exact ⟨e0, e1⟩ | (simp [go_sem, *]; done))
                  (first
                    | (go_at_call 18; with_reducible refine (has_s (HSA2.out.below (show Below W2.heap.size W2 _ from by first | exact HBL.out | exact HBL.out.drew | exact HBL.out.trans ((bl_drewN _).mono HBL.out.size))) x.1 hlow.1).mono ?_; rw [HH.out.1]; rintro e w4 ⟨rfl, hs⟩; have n0 := Aside0.mk (show Below W2.heap.size W2 w4 from by first | exact HBL.out.trans (hs.mono HBL.out.size) | exact HBL.out.drew.trans (hs.mono HBL.out.drew.size) | exact (HBL.out.trans ((bl_drewN _).mono HBL.out.size)).trans (hs.mono (HBL.out.trans ((bl_drewN _).mono HBL.out.size)).size)); clear hs HBL e0 e1; have HBL := n0; clear n0; have e0 := pw_cell_below HBL.out (pw_cell_below HKS.out.bel (pw_cell_below HBW.out HG.out.1)); have e1 := pw_cell_below HBL.out (pw_cell_below HKS.out.bel (pw_cell_below HBW.out HG.out.2)); rw [add_field _ _ _ (by decide)] at e1)
                    | (go_at_call 18; with_reducible refine (has_s (HSA2.out.below (show Below W2.heap.size W2 _ from by first | exact HBL.out | exact HBL.out.drew | exact HBL.out.trans ((bl_drewN _).mono HBL.out.size))) x.2 hlow.2).mono ?_; rw [HH.out.2]; rintro e w4 ⟨rfl, hs⟩; have n0 := Aside0.mk (show Below W2.heap.size W2 w4 from by first | exact HBL.out.trans (hs.mono HBL.out.size) | exact HBL.out.drew.trans (hs.mono HBL.out.drew.size) | exact (HBL.out.trans ((bl_drewN _).mono HBL.out.size)).trans (hs.mono (HBL.out.trans ((bl_drewN _).mono HBL.out.size)).size)); clear hs HBL e0 e1; have HBL := n0; clear n0; have e0 := pw_cell_below HBL.out (pw_cell_below HKS.out.bel (pw_cell_below HBW.out HG.out.1)); have e1 := pw_cell_below HBL.out (pw_cell_below HKS.out.bel (pw_cell_below HBW.out HG.out.2)); rw [add_field _ _ _ (by decide)] at e1))
                clear e0 e1 d0 d1 d2 q0 q1 q2
                go_wp2_with fail
                exact ⟨⟨k + 1, by omega, by simp, HBL.out⟩, by simp [intOf]; omega⟩
            · obtain rfl : k = l.length := by omega
              have ci := pw_cell_below hbl HIC.out.cell
              have hr1 : Boxed wr w.heap.size 4 (.bool false) := (hbl.block _ HR0.out.lt).trans HR0.out
              have r0 := hr1.cell
              have r1 := hr1.frozen
              have HRB := Aside0.mk hr1
              clear hr1 hbl
              have HBLO := HBL
              go_wp2_with fail
              have hw0 : w.heap.size < W0.heap.size := (Array.getElem?_eq_some_iff.1 HX0.out).1
              have hsz1 := HKS.out.bel.size
              have hd1 := (Array.getElem?_eq_some_iff.1 HD1.out).1
              have hd2 := (Array.getElem?_eq_some_iff.1 HD2.out).1
              have hs9 := HS9.out
              have hi0 := HI0.out
              have hdl : D < I0 := by rw [← hi0]; exact (Array.getElem?_eq_some_iff.1 HK.out).1
              have hdw : W0.heap.size ≤ D := by have := HL0.out.lt; omega
              have k2 : (wr.setCell ⟨w.heap.size, 0, none⟩ (.bool true)).heap[D2]? = some (.deferred (some [])) := (Below.heap_setCell wr ⟨w.heap.size, 0, none⟩ (.bool true) D2 (by simp only; omega)).trans ((HBLO.out.block D2 hd2).trans HD2.out)
              have k1 : (wr.setCell ⟨w.heap.size, 0, none⟩ (.bool true)).heap[D]? = some (.deferred (some [])) := (Below.heap_setCell wr ⟨w.heap.size, 0, none⟩ (.bool true) D (by simp only; omega)).trans ((HBLO.out.block D hd1).trans HD1.out)
              have hrT := HRB.out.set (.bool true)
              have hbF : Below w.heap.size w (wr.setCell ⟨w.heap.size, 0, none⟩ (.bool true)) := ((HBW.out.trans (HKS.out.bel.mono HBW.out.size)).trans (HBLO.out.mono (by omega))).setCell (p := ⟨w.heap.size, 0, none⟩) (Nat.le_refl _) _
              obtain ⟨WF, hWF⟩ : ∃ WF, wr.setCell ⟨w.heap.size, 0, none⟩ (.bool true) = WF := ⟨_, rfl⟩
              rw [hWF] at k1 k2 hrT hbF ⊢
              have k1' : (WF.putObj D2 (.deferred none)).heap[D]? = some (.deferred (some [])) := (World.putObj_heap_other (by omega)).trans k1
              refine ⟨by simp, .inl ⟨_, _, rfl, run_takeDeferred k2, ?_⟩⟩
              refine ⟨by simp, .inl ⟨_, _, rfl, run_takeDeferred k1', ?_⟩⟩
              have hrF : Boxed ((WF.putObj D2 (.deferred none)).putObj D (.deferred none)) w.heap.size 4 (.bool true) := (World.putObj_heap_other (by omega)).trans ((World.putObj_heap_other (by omega)).trans hrT)
              exact ⟨_, res_one rfl _ _ w.heap.size rfl (fun _ => by kernel_rfl) hrF.cell, rfl, (hbF.trans (belowK_b (w := w) (Nat.le_refl _) WF D2 _ _ (by omega) k2 rfl rfl)).trans (belowK_b (w := w) (Nat.le_refl _) (WF.putObj D2 (.deferred none)) D _ _ (by omega) k1' rfl rfl)⟩
theorem order_row (A1 : Option Addr) (l : List Sp) (c1 : Nat) (by_ : Int) (w : World) (hby : (Lit.int .i64 by_).wf = true) (hok : ∀ x ∈ l, (Lit.int .i64 x.1).wf = true ∧ (Lit.int .i64 x.2).wf = true)
    (hr1 : Kd.C spK w A1 l.length l) (hl1 : l.length * Try.prog.bytesOf 39 ≤ reachBytes) :
    Calls Try.prog 4 #[.slice A1 l.length c1, .int .i64 by_] w fun e w' => e = .returned (.bool true) ∧ Below w.heap.size w w' := by
  have e2 : Try.prog.bytesOf 39 = 16 := by kernel_rfl
  have e4 : reachBytes = 140737488351232 := by decide +kernel
  rw [e2, e4] at hl1
  have m0 : IntKind.i64.min = -9223372036854775808 := by decide +kernel
  have m1 : IntKind.i64.max = 9223372036854775807 := by decide +kernel
  have hw : ∀ x : Int, (Lit.int .i64 x).wf = true → -9223372036854775808 ≤ x ∧ x ≤ 9223372036854775807 := fun x h => by
    simp [Lit.wf, m0, m1] at h
    exact h
  exact order_walk A1 l c1 by_ w (hw _ hby).1 (hw _ hby).2 (fun x hx => ⟨(hw _ (hok x hx).1).2, (hw _ (hok x hx).2).2⟩) hr1 (by omega)
end Go.Proofs.Ytmkojmjjlcfohaa.Rg
