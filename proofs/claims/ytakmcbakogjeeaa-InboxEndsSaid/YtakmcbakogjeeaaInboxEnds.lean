/- InboxEnds: the law's walk; no condition but the reach of its arguments. -/
import Derived.Test.YtakmcbakogjeeaaIb3
set_option linter.unusedVariables false
set_option linter.unusedSimpArgs false
namespace Go.Proofs.Ytakmcbakogjeeaa.Ib
open Go Go.RowKit Go.Maps Go.Proofs.Ytakmcbakogjeeaa.Rm
open Go.Proofs.YtakmcbakogjeeaaW.PrintWords Go.Proofs.YtakmcbakogjeeaaW.PrintLast Go.Proofs.YtakmcbakogjeeaaW.PrintMore
theorem mask_le (x : Int) (m : Nat) (hm : m < 4611686018427387904) : 0 ≤ bits .and .i64 x m ∧ bits .and .i64 x m ≤ m := by
  have h : (BitVec.ofInt 64 x &&& BitVec.ofInt 64 (m : Int)).toNat ≤ m := by
    rw [BitVec.toNat_and]
    refine Nat.le_trans Nat.and_le_right ?_
    rw [BitVec.ofInt_natCast, BitVec.toNat_ofNat]
    exact Nat.mod_le _ _
  have e : bits .and .i64 x m = IntKind.i64.wrap ((BitVec.ofInt 64 x &&& BitVec.ofInt 64 (m : Int)).toNat : Int) := rfl
  rw [e, IntKind.wrap_i64]
  omega
theorem came_byte {w : World} {A : Option Addr} {xs : List Int} (h : Kd.C (Kd.int .u8) w A xs.length xs) (h0 : 0 < xs.length) : ∃ ad, A = some ad ∧ ad.block < w.heap.size ∧ ∀ i u, xs[i]? = some u → w.cell? (ad.add i) = some (.int .u8 u) := by
  obtain ⟨ad, hA, hq⟩ := h.2.2 h0
  have hc : ∀ i u, xs[i]? = some u → w.cell? (ad.add i) = some (.int .u8 u) := fun i u hu => by
    obtain ⟨c, _, hr, hcell⟩ := hq i u hu
    have e : c = [.int .u8 u] := hr
    subst e
    have h := hcell 0 _ rfl
    rw [show (Kd.int .u8).sz = 1 from rfl, Nat.mul_one, Nat.add_zero] at h
    exact h
  refine ⟨ad, hA, ?_, hc⟩
  obtain ⟨u, hu⟩ : ∃ u, xs[0]? = some u := ⟨_, List.getElem?_eq_getElem h0⟩
  have := World.block_lt_of_cell? w _ (hc 0 u hu)
  rwa [add_blk] at this
/-- The box once its end is known. -/
def hdF (f : Int) : Hd := ⟨1048576, 0, 1048576, f, f, true⟩
theorem end1 {f : Int} (h0 : 0 ≤ f) (h1 : f ≤ 65535) : endV ⟨1048576, 0, 1048576, 0, 0, false⟩ f = 0 ∧ endH ⟨1048576, 0, 1048576, 0, 0, false⟩ f = hdF f := by
  have e : endV ⟨1048576, 0, 1048576, 0, 0, false⟩ f = 0 := by
    unfold endV endsV
    rw [if_neg (by omega)]
    have d1 : decide (f < 0) = false := by simp; omega
    simp only [Bool.false_and, Bool.false_or, Bool.true_and, d1, Bool.false_eq_true, if_false]
    rw [if_neg (by omega)]
  refine ⟨e, ?_⟩
  unfold endH
  rw [if_pos e]
  rfl
theorem end2 {f g : Int} (h0 : 0 ≤ g) (h1 : g ≤ 65535) : endV (hdF f) g = (if g = f then 0 else 33) ∧ endH (hdF f) g = hdF f := by
  have e : endV (hdF f) g = (if g = f then 0 else 33) := by
    unfold endV endsV hdF
    rw [if_neg (by omega)]
    by_cases hg : g = f
    · subst hg
      have d1 : decide (g > g) = false := by simp
      have d2 : decide (g < g) = false := by simp
      have d3 : (g == g) = true := by simp
      simp only [d1, d2, d3, Bool.not_true, Bool.and_false, Bool.or_false, Bool.false_eq_true, if_false, if_true]
      rw [if_neg (by omega)]
    · have d3 : (g == f) = false := by simp [hg]
      simp only [d3, Bool.not_false, Bool.and_true, Bool.or_true, Bool.true_or, if_true]
      rw [if_neg hg]
  refine ⟨e, ?_⟩
  unfold endH
  rw [e]
  by_cases hg : g = f
  · subst hg
    rw [if_pos rfl, if_pos rfl]
    rfl
  · rw [if_neg hg, if_neg (by decide)]
theorem ends_bad {f : Int} {n : Nat} (hn : 0 < n) : endsV (hdF f) (f + n) false = 33 := by
  unfold endsV hdF
  have d1 : decide (f + (n : Int) > f) = true := by simp; omega
  simp only [d1, Bool.true_or, Bool.and_true, if_true]
theorem ends_good {f : Int} (h1 : f ≤ 65535) : endsV (hdF f) f true = 0 := by
  unfold endsV hdF
  have d1 : decide (f > f) = false := by simp
  have d2 : decide (f < f) = false := by simp
  have d3 : (f == f) = true := by simp
  simp only [d1, d2, d3, Bool.not_true, Bool.and_false, Bool.or_false, Bool.false_eq_true, if_false]
  rw [if_neg (by omega)]
theorem stop_ (p : Prop) (h : Aside0 p) : p := h.out
set_option maxRecDepth 100000 in
set_option maxHeartbeats 6400000 in
theorem ends_walk (fi ot : Int) (A : Option Addr) (xs : List Int) (cap : Nat) (w : World) (hr : Kd.C (Kd.int .u8) w A xs.length xs) (hcap : xs.length ≤ cap) (hl : xs.length ≤ 140737488355328) :
    Calls Try.prog 3 #[.int .i64 fi, .int .i64 ot, .slice A xs.length cap] w fun e w' => e = .returned (.bool true) ∧ Below w.heap.size w w' := by
  have HR := Aside0.mk hr
  have hf := mask_le fi 65535 (by omega)
  have ho := mask_le ot 65535 (by omega)
  have hcast : ((65535 : Nat) : Int) = 65535 := rfl
  rw [hcast] at hf ho
  clear hcast hr
  go_enter Try.func3, Try.ntmps3
  go_upto_region 5 with (go_at_call 15; refine (new_s w 1048576 (by omega) (by omega)).mono ?_; rintro e w1 ⟨g, rfl, hx, hb⟩; have X := Aside0.mk hx; have HB := Aside0.mk hb; clear hx hb)
  obtain ⟨F, hF⟩ : ∃ F, bits .and .i64 fi 65535 = F := ⟨_, rfl⟩
  obtain ⟨G, hG⟩ : ∃ G, bits .and .i64 ot 65535 = G := ⟨_, rfl⟩
  rw [hF] at hf ⊢
  rw [hG] at ho
  have HG := Aside0.mk hG
  clear hF hG
  obtain ⟨hf0, hf1⟩ := hf
  obtain ⟨ho0, ho1⟩ := ho
  have CE1 : Aside0 (Calls Try.prog 16 #[.pointer (some ⟨g, 0, none⟩), .int .i64 F] w1 fun e w' => e = .returned (.int .i64 0) ∧ BoxAt w' w.heap.size g w.heap.size 0 (hdF F) [] ∧ Below w.heap.size w1 w') := ⟨by
    have h := end_s X.out F HB.out.size
    rw [(end1 hf0 hf1).1, (end1 hf0 hf1).2] at h
    exact h⟩
  have CR := Aside0.mk (fun (W : World) (hx : BoxAt W w.heap.size g w.heap.size 0 (hdF F) []) => reach_s hx)
  have CFi : Aside0 (∀ W : World, BoxAt W w.heap.size g w.heap.size 0 (hdF F) [] → Calls Try.prog 17 #[.pointer (some ⟨g, 0, none⟩)] W fun e w' => e = .returned (.tuple #[.int .i64 F, .bool true]) ∧ W = w') := ⟨fun W hx => final_s hx⟩
  have CRe : Aside0 (∀ W : World, BoxAt W w.heap.size g w.heap.size 0 (hdF F) [] → Calls Try.prog 18 #[.pointer (some ⟨g, 0, none⟩)] W fun e w' => e = .returned (.int .i64 F) ∧ W = w') := ⟨fun W hx => reach_s hx⟩
  have CE2 : Aside0 (∀ W : World, BoxAt W w.heap.size g w.heap.size 0 (hdF F) [] → w.heap.size ≤ W.heap.size → Calls Try.prog 16 #[.pointer (some ⟨g, 0, none⟩), .int .i64 G] W fun e w' => e = .returned (.int .i64 (if G = F then 0 else 33)) ∧ BoxAt w' w.heap.size g w.heap.size 0 (hdF F) [] ∧ Below w.heap.size W w') := ⟨fun W hx hb => by
    have h := end_s hx G hb
    rw [(end2 (f := F) ho0 ho1).1, (end2 (f := F) ho0 ho1).2] at h
    exact h⟩
  clear CR
  go_wp2_with (first
    | (go_at_call 16; (refine CE1.out.mono ?_); rintro e w2 ⟨rfl, hx, hb⟩; have X2 := Aside0.mk hx; have HB2 := Aside0.mk (HB.out.trans hb); clear hx hb CE1)
    | (go_at_call 17; (refine (CFi.out _ X2.out).mono ?_); rintro e w' ⟨rfl, rfl⟩)
    | (go_at_call 18; (refine (CRe.out _ X2.out).mono ?_); rintro e w' ⟨rfl, rfl⟩; refine stop_ _ ?_))
  refine ⟨?_⟩
  have hG := HG.out
  have CP1 : Aside0 (0 < xs.length → ∀ W : World, BoxAt W w.heap.size g w.heap.size 0 (hdF F) [] → w.heap.size ≤ W.heap.size → Calls Try.prog 19 #[.pointer (some ⟨g, 0, none⟩), .int .i64 F, .slice A xs.length cap, .bool false] W fun e w' => e = .returned (.int .i64 33) ∧ Below W.heap.size W w') := ⟨fun hz W hx hb =>
    put_bad hx F A xs.length cap false hf0 (by omega) hl 33 (ends_bad hz) (by decide) hb⟩
  have CP2 : Aside0 ((xs.length : Int) ≤ F → ∀ W : World, BoxAt W w.heap.size g w.heap.size 0 (hdF F) [] → Below w.heap.size w W → Calls Try.prog 19 #[.pointer (some ⟨g, 0, none⟩), .int .i64 (F - xs.length), .slice A xs.length cap, .bool true] W fun e w' => e = .returned (.int .i64 0) ∧ Below w.heap.size W w') := ⟨fun hle W hx hb =>
    put_e hx (F - xs.length) A xs.length cap true (by omega) (by omega) hl (by rw [show F - (xs.length : Int) + xs.length = F by omega]; exact ends_good hf1) (by show (0 : Int) ≤ _; omega) (by show (0 : Int) ≤ 0; omega) (by show 0 ≤ F; omega) (by show F ≤ _; omega) hb.size (by unfold maxLen; omega) hcap xs rfl (fun h0 => by
      obtain ⟨ad, hA, hlt, hc⟩ := came_byte HR.out h0
      exact ⟨ad, hA, hlt, fun i u hu => (World.cell?_of_block (hb.block _ (by rw [add_blk]; exact hlt))).trans (hc i u hu)⟩)⟩
  have hw0 : (Lit.int .i64 0).wf = true := rfl
  clear CFi CRe hw0
  by_cases hz : 0 < xs.length
  · have hzi : (0 : Int) < xs.length := by omega
    by_cases hle : (xs.length : Int) ≤ F
    · by_cases hGF : G = F
      · have CE3 := Aside0.mk (CE2.out w2 X2.out HB2.out.size)
        rw [if_pos hGF] at CE3
        subst hGF
        go_wp2_with (first
          | (go_at_call 16; (with_reducible refine CE3.out.mono ?_); rintro e w3 ⟨rfl, hx, hb⟩; have X3 := Aside0.mk hx; have HB3 := Aside0.mk (HB2.out.trans hb); clear hx hb CE3)
          | (go_at_call 19; (with_reducible refine (CP1.out hz w3 X3.out HB3.out.size).mono ?_); rintro e w4 ⟨rfl, hb⟩; have X4 := Aside0.mk (X3.out.below hb); have HB4 := Aside0.mk (HB3.out.trans (hb.mono HB3.out.size)); clear hb)
          | (go_at_call 19; (with_reducible refine (CP2.out hle w4 X4.out HB4.out).mono ?_); rintro e w5 ⟨rfl, hb⟩; have HB5 := Aside0.mk (HB4.out.trans hb); clear hb)
          | (go_at_call 19; (with_reducible refine (CP2.out hle w3 X3.out HB3.out).mono ?_); rintro e w5 ⟨rfl, hb⟩; have HB5 := Aside0.mk (HB3.out.trans hb); clear hb))
        go_ret
        exact ⟨rfl, by first | exact HB5.out | exact HB4.out | exact HB3.out⟩
      · have d0 : (G == F) = false := by simp [hGF]
        have CE3 := Aside0.mk (CE2.out w2 X2.out HB2.out.size)
        rw [if_neg hGF] at CE3
        go_wp2_with (first
          | (go_at_call 16; (with_reducible refine CE3.out.mono ?_); rintro e w3 ⟨rfl, hx, hb⟩; have X3 := Aside0.mk hx; have HB3 := Aside0.mk (HB2.out.trans hb); clear hx hb CE3)
          | (go_at_call 19; (with_reducible refine (CP1.out hz w3 X3.out HB3.out.size).mono ?_); rintro e w4 ⟨rfl, hb⟩; have X4 := Aside0.mk (X3.out.below hb); have HB4 := Aside0.mk (HB3.out.trans (hb.mono HB3.out.size)); clear hb)
          | (go_at_call 19; (with_reducible refine (CP2.out hle w4 X4.out HB4.out).mono ?_); rintro e w5 ⟨rfl, hb⟩; have HB5 := Aside0.mk (HB4.out.trans hb); clear hb)
          | (go_at_call 19; (with_reducible refine (CP2.out hle w3 X3.out HB3.out).mono ?_); rintro e w5 ⟨rfl, hb⟩; have HB5 := Aside0.mk (HB3.out.trans hb); clear hb))
        go_ret
        exact ⟨rfl, by first | exact HB5.out | exact HB4.out | exact HB3.out⟩
    · have hgt : F < (xs.length : Int) := by omega
      by_cases hGF : G = F
      · have CE3 := Aside0.mk (CE2.out w2 X2.out HB2.out.size)
        rw [if_pos hGF] at CE3
        subst hGF
        go_wp2_with (first
          | (go_at_call 16; (with_reducible refine CE3.out.mono ?_); rintro e w3 ⟨rfl, hx, hb⟩; have X3 := Aside0.mk hx; have HB3 := Aside0.mk (HB2.out.trans hb); clear hx hb CE3)
          | (go_at_call 19; (with_reducible refine (CP1.out hz w3 X3.out HB3.out.size).mono ?_); rintro e w4 ⟨rfl, hb⟩; have X4 := Aside0.mk (X3.out.below hb); have HB4 := Aside0.mk (HB3.out.trans (hb.mono HB3.out.size)); clear hb)
          | (go_at_call 19; (with_reducible refine (CP2.out hle w4 X4.out HB4.out).mono ?_); rintro e w5 ⟨rfl, hb⟩; have HB5 := Aside0.mk (HB4.out.trans hb); clear hb)
          | (go_at_call 19; (with_reducible refine (CP2.out hle w3 X3.out HB3.out).mono ?_); rintro e w5 ⟨rfl, hb⟩; have HB5 := Aside0.mk (HB3.out.trans hb); clear hb))
        go_ret
        exact ⟨rfl, by first | exact HB5.out | exact HB4.out | exact HB3.out⟩
      · have d0 : (G == F) = false := by simp [hGF]
        have CE3 := Aside0.mk (CE2.out w2 X2.out HB2.out.size)
        rw [if_neg hGF] at CE3
        go_wp2_with (first
          | (go_at_call 16; (with_reducible refine CE3.out.mono ?_); rintro e w3 ⟨rfl, hx, hb⟩; have X3 := Aside0.mk hx; have HB3 := Aside0.mk (HB2.out.trans hb); clear hx hb CE3)
          | (go_at_call 19; (with_reducible refine (CP1.out hz w3 X3.out HB3.out.size).mono ?_); rintro e w4 ⟨rfl, hb⟩; have X4 := Aside0.mk (X3.out.below hb); have HB4 := Aside0.mk (HB3.out.trans (hb.mono HB3.out.size)); clear hb)
          | (go_at_call 19; (with_reducible refine (CP2.out hle w4 X4.out HB4.out).mono ?_); rintro e w5 ⟨rfl, hb⟩; have HB5 := Aside0.mk (HB4.out.trans hb); clear hb)
          | (go_at_call 19; (with_reducible refine (CP2.out hle w3 X3.out HB3.out).mono ?_); rintro e w5 ⟨rfl, hb⟩; have HB5 := Aside0.mk (HB3.out.trans hb); clear hb))
        go_ret
        exact ⟨rfl, by first | exact HB5.out | exact HB4.out | exact HB3.out⟩
  · have hle : (xs.length : Int) ≤ F := by omega
    have d5 : decide ((0 : Int) < (xs.length : Int)) = false := decide_eq_false (by omega)
    have d6 : decide (0 < xs.length) = false := decide_eq_false (by omega)
    clear hz
    by_cases hGF : G = F
    · have CE3 := Aside0.mk (CE2.out w2 X2.out HB2.out.size)
      rw [if_pos hGF] at CE3
      subst hGF
      go_wp2_with (first
        | (go_at_call 16; (with_reducible refine CE3.out.mono ?_); rintro e w3 ⟨rfl, hx, hb⟩; have X3 := Aside0.mk hx; have HB3 := Aside0.mk (HB2.out.trans hb); clear hx hb CE3)
        | (go_at_call 19; (with_reducible refine (CP1.out hz w3 X3.out HB3.out.size).mono ?_); rintro e w4 ⟨rfl, hb⟩; have X4 := Aside0.mk (X3.out.below hb); have HB4 := Aside0.mk (HB3.out.trans (hb.mono HB3.out.size)); clear hb)
        | (go_at_call 19; (with_reducible refine (CP2.out hle w4 X4.out HB4.out).mono ?_); rintro e w5 ⟨rfl, hb⟩; have HB5 := Aside0.mk (HB4.out.trans hb); clear hb)
        | (go_at_call 19; (with_reducible refine (CP2.out hle w3 X3.out HB3.out).mono ?_); rintro e w5 ⟨rfl, hb⟩; have HB5 := Aside0.mk (HB3.out.trans hb); clear hb))
      go_ret
      exact ⟨rfl, by first | exact HB5.out | exact HB4.out | exact HB3.out⟩
    · have d0 : (G == F) = false := by simp [hGF]
      have CE3 := Aside0.mk (CE2.out w2 X2.out HB2.out.size)
      rw [if_neg hGF] at CE3
      go_wp2_with (first
        | (go_at_call 16; (with_reducible refine CE3.out.mono ?_); rintro e w3 ⟨rfl, hx, hb⟩; have X3 := Aside0.mk hx; have HB3 := Aside0.mk (HB2.out.trans hb); clear hx hb CE3)
        | (go_at_call 19; (with_reducible refine (CP1.out hz w3 X3.out HB3.out.size).mono ?_); rintro e w4 ⟨rfl, hb⟩; have X4 := Aside0.mk (X3.out.below hb); have HB4 := Aside0.mk (HB3.out.trans (hb.mono HB3.out.size)); clear hb)
        | (go_at_call 19; (with_reducible refine (CP2.out hle w4 X4.out HB4.out).mono ?_); rintro e w5 ⟨rfl, hb⟩; have HB5 := Aside0.mk (HB4.out.trans hb); clear hb)
        | (go_at_call 19; (with_reducible refine (CP2.out hle w3 X3.out HB3.out).mono ?_); rintro e w5 ⟨rfl, hb⟩; have HB5 := Aside0.mk (HB3.out.trans hb); clear hb))
      go_ret
      exact ⟨rfl, by first | exact HB5.out | exact HB4.out | exact HB3.out⟩
theorem ends_row (fi ot : Int) (A : Option Addr) (xs : List Int) (cap : Nat) (w : World) (hcap : xs.length ≤ cap) (hr : Kd.C (Kd.int .u8) w A xs.length xs) (hl : xs.length * Try.prog.bytesOf 5 ≤ reachBytes) :
    Calls Try.prog 3 #[.int .i64 fi, .int .i64 ot, .slice A xs.length cap] w fun e w' => e = .returned (.bool true) ∧ Below w.heap.size w w' := by
  have e2 : Try.prog.bytesOf 5 = 1 := by kernel_rfl
  have e4 : reachBytes = 140737488351232 := by decide +kernel
  rw [e2, e4] at hl
  exact ends_walk fi ot A xs cap w hr hcap (by omega)
end Go.Proofs.Ytakmcbakogjeeaa.Ib
