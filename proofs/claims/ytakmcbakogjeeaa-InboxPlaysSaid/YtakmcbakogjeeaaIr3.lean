/- The document's box (layer 6): Put; no condition. -/
import Derived.Test.YtakmcbakogjeeaaIr2
import Derived.Test.YtakmcbakogjeeaaIbPure3
set_option linter.unusedVariables false
set_option linter.unusedSimpArgs false
namespace Go.Proofs.Ytakmcbakogjeeaa.Ib
open Go Go.RowKit Go.Maps Go.Proofs.Ytakmcbakogjeeaa.Rm Go.Proofs.Ytakmcbakogjeeaa.Rw
open Go.Proofs.YtakmcbakogjeeaaW.PrintWords Go.Proofs.YtakmcbakogjeeaaW.PrintLast Go.Proofs.YtakmcbakogjeeaaW.PrintMore
variable {W W' : World} {b r : Nat} {h : Hd} {A : Option Addr} {c : Nat} {L : List By}
/-- What is wrong with a piece. -/
def putV (h : Hd) (off : Int) (len : Nat) (fin : Bool) : Int := if off < 0 ∨ off > 4611686018427387903 - len then 2 else endsV h (off + len) fin
/-- All of a box's bytes lie between two places. -/
def InR (lo hi : Int) (L : List By) : Prop := ∀ z ∈ L, lo ≤ z.1 ∧ z.1 < hi
theorem inR_put {h : Hd} {z : By} {hi : Int} (hu : Up L) (hr : InR h.place hi L) (hz : z.1 < hi) : InR h.place hi (putU h z L) ∧ Up (putU h z L) := by
  unfold putU
  split
  · exact ⟨hr, hu⟩
  · refine ⟨fun y hy => ?_, up_insU hu⟩
    rcases (mem_insU hu).1 hy with h1 | ⟨h1, _⟩
    · exact hr y h1
    · subst h1; omega
theorem putB_step (h : Hd) (off : Int) (data : List Int) (i : Nat) (d : Int) (hd : data[i]? = some d) (L : List By) : putB h.place (off + i) (data.drop i) L = putB h.place (off + ((i + 1 : Nat) : Int)) (data.drop (i + 1)) (putU h (off + i, d) L) := by
  obtain ⟨hi, he⟩ := List.getElem?_eq_some_iff.1 hd
  rw [List.drop_eq_getElem_cons hi, he, putB]
  rw [show off + (i : Int) + 1 = off + ((i + 1 : Nat) : Int) by push_cast; omega]
  rfl
/-- A round of Put. -/
def RPut (W2 : World) (b r : Nat) (h : Hd) (off : Int) (data : List Int) (L : List By) (v : Value) (wr : World) : Prop :=
  ∃ (i : Nat) (A' : Option Addr) (c' : Nat) (L' : List By), i ≤ data.length ∧ v = .int .i64 i ∧ RBox wr b r h A' c' L' ∧ LfR W2 wr b r ∧ InR h.place h.limit L' ∧ Up L' ∧ putB h.place off data L = putB h.place (off + i) (data.drop i) L'
/-- The ways of an end. -/
theorem ends_ways (h : Hd) (e : Int) (fin : Bool) :
    (endsV h e fin = 33 ∧ ((h.known = true ∧ h.final < e) ∨ (h.known = true ∧ e < h.final ∧ fin = true) ∨ (h.known = false ∧ fin = true ∧ e < h.reach) ∨ (h.known = true ∧ e = h.final ∧ fin = true ∧ e < h.reach))) ∨
    (endsV h e fin = (if e > h.limit then 30 else 0) ∧ ((h.known = false ∧ fin = false) ∨ (h.known = false ∧ fin = true ∧ h.reach ≤ e) ∨ (h.known = true ∧ fin = false ∧ e ≤ h.final) ∨ (h.known = true ∧ fin = true ∧ e = h.final ∧ h.reach ≤ e))) := by
  obtain ⟨rm, pl, li, re, fi, kn⟩ := h
  unfold endsV
  simp only
  by_cases h1 : fi < e
  · have g1 : decide (e > fi) = true := decide_eq_true h1
    have g2 : (e == fi) = false := by simp; omega
    rw [g1, g2]
    cases kn <;> cases fin <;> simp
    · by_cases h2 : e < re
      · first | exact .inl ⟨fun h => by omega, h2⟩ | exact .inl (fun h => by omega) | (simp [h2])
      · simp [h2]; omega
    · exact .inl h1
    · exact .inl (.inl h1)
  · have g1 : decide (e > fi) = false := decide_eq_false h1
    rw [g1]
    by_cases h3 : e = fi
    · subst h3
      by_cases h2 : e < re
      · cases kn <;> cases fin <;> simp [h2]
      · cases kn <;> cases fin <;> simp [h2] <;> omega
    · have g2 : (e == fi) = false := by simp [h3]
      rw [g2]
      by_cases h2 : e < re
      · cases kn <;> cases fin <;> simp [h2] <;> omega
      · cases kn <;> cases fin <;> simp [h2] <;> omega
set_option maxRecDepth 100000 in
set_option maxHeartbeats 12800000 in
theorem rPut_bad (x : RBox W b r h A c L) (off : Int) (A0 : Option Addr) (len cap : Nat) (fin : Bool) (ho0 : -9223372036854775808 ≤ off) (ho1 : off ≤ 9223372036854775807) (hl : len ≤ 140737488355328) (hv : putV h off len fin ≠ 0) :
    Calls Try.prog 27 #[.pointer (some ⟨r, 0, none⟩), .int .i64 off, .slice A0 len cap, .bool fin] W fun e w' => e = .returned (.int .i64 (putV h off len fin)) ∧ W = w' := by
  obtain ⟨c0, c1, c2, c3, c4, c5, c6⟩ := x.cl
  clear x
  obtain ⟨rm, pl, li, re, fi, kn⟩ := h
  simp only at c0 c1 c2 c3 c4 c5
  unfold putV at hv ⊢
  by_cases h0 : off < 0
  · rw [if_pos (.inl h0)]
    clear hv
    go_enter Try.func27, Try.ntmps27
    go_wp2_with fail
    go_ret
    exact ⟨rfl, rfl⟩
  by_cases h1 : off > 4611686018427387903 - len
  · rw [if_pos (.inr h1)]
    clear hv
    go_enter Try.func27, Try.ntmps27
    go_wp2_with fail
    go_ret
    exact ⟨rfl, rfl⟩
  have hn : ¬ (off < 0 ∨ off > 4611686018427387903 - len) := by omega
  rw [if_neg hn] at hv ⊢
  clear hn
  have h0' : 0 ≤ off := by omega
  have h1' : off ≤ 4611686018427387903 - len := by omega
  clear h0 h1
  rcases ends_ways ⟨rm, pl, li, re, fi, kn⟩ (off + len) fin with ⟨hx, hw⟩ | ⟨hx, hw⟩
  · rw [hx]
    clear hx hv
    simp only at hw
    rcases hw with ⟨rfl, h2⟩ | ⟨rfl, h2, rfl⟩ | ⟨rfl, rfl, h2⟩ | ⟨rfl, h2, rfl, h3⟩
    · have d1 : decide (fi < off + (len : Int)) = true := decide_eq_true h2
      go_enter Try.func27, Try.ntmps27
      go_wp2_with fail
      go_ret
      exact ⟨rfl, rfl⟩
    · have d1 : decide (fi < off + (len : Int)) = false := decide_eq_false (by omega)
      have d2 : (off + (len : Int) != fi) = true := by simp; omega
      go_enter Try.func27, Try.ntmps27
      go_wp2_with fail
      go_ret
      exact ⟨rfl, rfl⟩
    · have d1 : decide (off + (len : Int) < re) = true := decide_eq_true h2
      go_enter Try.func27, Try.ntmps27
      go_wp2_with fail
      go_ret
      exact ⟨rfl, rfl⟩
    · subst h2
      have d1 : decide (off + (len : Int) < re) = true := decide_eq_true h3
      go_enter Try.func27, Try.ntmps27
      go_wp2_with fail
      go_ret
      exact ⟨rfl, rfl⟩
  · rw [hx] at hv ⊢
    have hli : off + len > li := by
      by_cases h5 : off + (len : Int) > li
      · exact h5
      · exact absurd (by simp only; rw [if_neg h5]) hv
    simp only
    rw [if_pos hli]
    clear hx hv
    simp only at hw
    rcases hw with ⟨rfl, rfl⟩ | ⟨rfl, rfl, h2⟩ | ⟨rfl, rfl, h2⟩ | ⟨rfl, rfl, h2, h3⟩
    · skip
      go_enter Try.func27, Try.ntmps27
      go_wp2_with fail
      go_ret
      exact ⟨rfl, rfl⟩
    · have d1 : decide (off + (len : Int) < re) = false := decide_eq_false (by omega)
      go_enter Try.func27, Try.ntmps27
      go_wp2_with fail
      go_ret
      exact ⟨rfl, rfl⟩
    · have d1 : decide (fi < off + (len : Int)) = false := decide_eq_false (by omega)
      go_enter Try.func27, Try.ntmps27
      go_wp2_with fail
      go_ret
      exact ⟨rfl, rfl⟩
    · subst h2
      have d1 : decide (off + (len : Int) < re) = false := decide_eq_false (by omega)
      go_enter Try.func27, Try.ntmps27
      go_wp2_with fail
      go_ret
      exact ⟨rfl, rfl⟩
set_option maxRecDepth 100000 in
set_option maxHeartbeats 12800000 in
theorem rPut_s (x : RBox W b r h A c L) (hup : Up L) (hin : InR h.place h.limit L) (hlim : h.limit ≤ h.place + 1048576) (hpl0 : 0 ≤ h.place) (hbw : b ≤ W.heap.size) (off : Int) (A0 : Option Addr) (cap : Nat) (data : List Int) (hcap : data.length ≤ cap) (fin : Bool) (hl : data.length ≤ 140737488355328) (hv : putV h off data.length fin = 0)
    (hA : 0 < data.length → ∃ ad, A0 = some ad ∧ ad.block < b ∧ ∀ i u, data[i]? = some u → W.cell? (ad.add i) = some (.int .u8 u)) :
    Calls Try.prog 27 #[.pointer (some ⟨r, 0, none⟩), .int .i64 off, .slice A0 data.length cap, .bool fin] W fun e w' => e = .returned (.int .i64 0) ∧ ∃ A' c', RBox w' b r (putH h off data.length fin) A' c' (putB h.place off data L) ∧ LfR W w' b r := by
  obtain ⟨len, hlen⟩ : ∃ len, data.length = len := ⟨_, rfl⟩
  rw [hlen] at hcap hl hv hA ⊢
  have X := Aside0.mk x
  have HUP := Aside0.mk hup
  have HIN := Aside0.mk hin
  have HA := Aside0.mk hA
  have HLEN := Aside0.mk hlen
  have hv2 : 0 ≤ off ∧ off ≤ 4611686018427387903 - len ∧ endsV h (off + len) fin = 0 := by
    unfold putV at hv
    by_cases hb : off < 0 ∨ off > 4611686018427387903 - len
    · rw [if_pos hb] at hv; exact absurd hv (by decide)
    · rw [if_neg hb] at hv; exact ⟨by omega, by omega, hv⟩
  obtain ⟨h0', h1', hv3⟩ := hv2
  obtain ⟨c0, c1, c2, c3, c4, c5, c6⟩ := X.out.cl
  have f3 := X.out.free 3
  have f4 := X.out.free 4
  have f5 := X.out.free 5
  clear x hup hin hA hv hlen
  rcases ends_ways h (off + len) fin with ⟨hx, hw⟩ | ⟨hx, hw⟩
  · rw [hv3] at hx
    exact absurd hx (by decide)
  have hli : off + len ≤ h.limit := by
    by_cases h5 : off + (len : Int) > h.limit
    · rw [hv3, if_pos h5] at hx
      exact absurd hx (by decide)
    · omega
  clear hx hv3
  have FIN : Aside0 (∀ (W2 wr : World) A' c' L', LfR W W2 b r → RBox wr b r (putH h off len fin) A' c' L' → LfR W2 wr b r → putB h.place off data L = L' → ∃ A' c', RBox wr b r (putH h off len fin) A' c' (putB h.place off data L) ∧ LfR W wr b r) := ⟨fun W2 wr A' c' L' q1 q2 q3 q4 => ⟨A', c', by rw [q4]; exact q2, q1.then q3⟩⟩
  obtain ⟨rm, pl, li, re, fi, kn⟩ := h
  simp only at c0 c1 c2 c3 c4 c5 hw hli hlim hpl0 HIN FIN ⊢
  rcases hw with ⟨rfl, rfl⟩ | ⟨rfl, rfl, h2⟩ | ⟨rfl, rfl, h2⟩ | ⟨rfl, rfl, h2, h3⟩
  · by_cases hre : off + (len : Int) > re
    · have eh : putH ⟨rm, pl, li, re, fi, false⟩ off len false = ⟨rm, pl, li, off + len, fi, false⟩ := by unfold putH; simp; omega
      rw [eh] at FIN ⊢
      clear eh
      go_enter Try.func27, Try.ntmps27
      go_upto_region 13 with fail
      have y := (X.out).put 3 (.int .i64 (off + len)) ⟨rm, pl, li, off + len, fi, false⟩ rfl
      have l2 := (LfR.refl W b r).set X.out.hg 3 (.int .i64 (off + len))
      obtain ⟨W2, hW2⟩ : ∃ W2, (W).setCell ⟨r, 3, none⟩ (.int .i64 (off + len)) = W2 := ⟨_, rfl⟩
      rw [hW2] at y ⊢
      have L2 : Aside0 (LfR W W2 b r) := ⟨by rw [← hW2]; exact l2⟩
      clear hW2 c0 c1 c2 c3 c4 c5 c6 f3 f4 f5 l2 X
      have Y := Aside0.mk y
      clear y
      go_wp2_with fail
      go_loopw [10] (fun v wr => RPut W2 b r ⟨rm, pl, li, off + len, fi, false⟩ off data L v wr) (fun v _ => len - (intOf v).toNat)
      case atStart => exact ⟨0, A, c, L, Nat.zero_le _, rfl, Y.out, LfR.refl _ _ _, HIN.out, HUP.out, by simp⟩
      case round =>
        obtain ⟨i, A', c', L', hi, rfl, hx, hl2, hin, hup, hpb⟩ := hrel
        have HX := Aside0.mk hx
        have HL := Aside0.mk hl2
        have HI2 := Aside0.mk hin
        have HU2 := Aside0.mk hup
        have HPB := Aside0.mk hpb
        rw [HLEN.out] at hi
        clear hx hl2 hin hup hpb
        by_cases hlt : i < len
        · obtain ⟨d, hd⟩ : ∃ d, data[i]? = some d := ⟨_, List.getElem?_eq_getElem (by rw [HLEN.out]; exact hlt)⟩
          obtain ⟨ad, rfl, hlt0, hc⟩ := HA.out (by omega)
          have ed : wr.cell? (ad.add i) = some (.int .u8 d) := (World.cell?_of_block ((L2.out.bel.trans HL.out.bel).block _ (by rw [add_blk]; exact hlt0))).trans (hc i d hd)
          have hfew := up_few HU2.out HI2.out
          have CP : Aside0 (Calls Try.prog 79 #[.pointer (some ⟨r, 0, none⟩), .agg #[.int .i64 (off + i), .int .u8 d]] wr fun e w' => e = .returned (.tuple #[]) ∧ ∃ A3 c3, RBox w' b r ⟨rm, pl, li, off + len, fi, false⟩ A3 c3 (putU ⟨rm, pl, li, off + len, fi, false⟩ (off + i, d) L') ∧ LfR wr w' b r) := ⟨rput_s HX.out HU2.out (by
            by_cases hpl : pl ≤ li
            · have := hfew hpl; simp only at this; omega
            · cases L' with
              | nil => simp
              | cons q _ => have := HI2.out q List.mem_cons_self; simp only at this; omega) (by have := L2.out.bel.size; have := HL.out.bel.size; omega) (off + i, d)⟩
          have PBS := Aside0.mk (putB_step ⟨rm, pl, li, off + len, fi, false⟩ off data i d hd L')
          have NX := Aside0.mk (inR_put (h := ⟨rm, pl, li, off + len, fi, false⟩) (z := (off + i, d)) HU2.out HI2.out (by simp only; omega))
          clear hc hd hfew
          go_wp2_with (go_at_call 79; (with_reducible refine CP.out.mono ?_); rintro e w3 ⟨rfl, A3, c3, hx3, hl3⟩; have HX3 := Aside0.mk hx3; have HL3 := Aside0.mk hl3; clear hx3 hl3 ed)
          exact ⟨⟨i + 1, A3, c3, _, by rw [HLEN.out]; omega, by simp, HX3.out, HL.out.then HL3.out, NX.out.1, NX.out.2, HPB.out.trans PBS.out⟩, by simp [intOf]; omega⟩
        · have hie : i = len := by omega
          have hlt' : ¬ (i : Int) < (len : Int) := by omega
          have HPE : Aside0 (putB pl off data L = L') := ⟨by
            have := HPB.out
            rw [hie, List.drop_of_length_le (by rw [HLEN.out]; exact Nat.le_refl _)] at this
            exact this⟩
          clear hie
          go_wp2_with fail
          go_ret
          obtain ⟨A5, c5, q1, q2⟩ := FIN.out W2 _ A' c' L' L2.out HX.out HL.out HPE.out
          exact ⟨rfl, ⟨A5, c5, q1⟩, q2⟩
    · have eh : putH ⟨rm, pl, li, re, fi, false⟩ off len false = ⟨rm, pl, li, re, fi, false⟩ := by unfold putH; simp; omega
      have hre' : off + (len : Int) ≤ re := by omega
      rw [eh] at FIN ⊢
      clear eh
      go_enter Try.func27, Try.ntmps27
      go_upto_region 13 with fail
      have y := X.out
      have l2 := LfR.refl W b r
      obtain ⟨W2, hW2⟩ : ∃ W2, W = W2 := ⟨_, rfl⟩
      rw [hW2] at y ⊢
      have L2 : Aside0 (LfR W W2 b r) := ⟨by rw [← hW2]; exact l2⟩
      clear hW2 c0 c1 c2 c3 c4 c5 c6 f3 f4 f5 l2 X
      have Y := Aside0.mk y
      clear y
      go_wp2_with fail
      go_loopw [10] (fun v wr => RPut W2 b r ⟨rm, pl, li, re, fi, false⟩ off data L v wr) (fun v _ => len - (intOf v).toNat)
      case atStart => exact ⟨0, A, c, L, Nat.zero_le _, rfl, Y.out, LfR.refl _ _ _, HIN.out, HUP.out, by simp⟩
      case round =>
        obtain ⟨i, A', c', L', hi, rfl, hx, hl2, hin, hup, hpb⟩ := hrel
        have HX := Aside0.mk hx
        have HL := Aside0.mk hl2
        have HI2 := Aside0.mk hin
        have HU2 := Aside0.mk hup
        have HPB := Aside0.mk hpb
        rw [HLEN.out] at hi
        clear hx hl2 hin hup hpb
        by_cases hlt : i < len
        · obtain ⟨d, hd⟩ : ∃ d, data[i]? = some d := ⟨_, List.getElem?_eq_getElem (by rw [HLEN.out]; exact hlt)⟩
          obtain ⟨ad, rfl, hlt0, hc⟩ := HA.out (by omega)
          have ed : wr.cell? (ad.add i) = some (.int .u8 d) := (World.cell?_of_block ((L2.out.bel.trans HL.out.bel).block _ (by rw [add_blk]; exact hlt0))).trans (hc i d hd)
          have hfew := up_few HU2.out HI2.out
          have CP : Aside0 (Calls Try.prog 79 #[.pointer (some ⟨r, 0, none⟩), .agg #[.int .i64 (off + i), .int .u8 d]] wr fun e w' => e = .returned (.tuple #[]) ∧ ∃ A3 c3, RBox w' b r ⟨rm, pl, li, re, fi, false⟩ A3 c3 (putU ⟨rm, pl, li, re, fi, false⟩ (off + i, d) L') ∧ LfR wr w' b r) := ⟨rput_s HX.out HU2.out (by
            by_cases hpl : pl ≤ li
            · have := hfew hpl; simp only at this; omega
            · cases L' with
              | nil => simp
              | cons q _ => have := HI2.out q List.mem_cons_self; simp only at this; omega) (by have := L2.out.bel.size; have := HL.out.bel.size; omega) (off + i, d)⟩
          have PBS := Aside0.mk (putB_step ⟨rm, pl, li, re, fi, false⟩ off data i d hd L')
          have NX := Aside0.mk (inR_put (h := ⟨rm, pl, li, re, fi, false⟩) (z := (off + i, d)) HU2.out HI2.out (by simp only; omega))
          clear hc hd hfew
          go_wp2_with (go_at_call 79; (with_reducible refine CP.out.mono ?_); rintro e w3 ⟨rfl, A3, c3, hx3, hl3⟩; have HX3 := Aside0.mk hx3; have HL3 := Aside0.mk hl3; clear hx3 hl3 ed)
          exact ⟨⟨i + 1, A3, c3, _, by rw [HLEN.out]; omega, by simp, HX3.out, HL.out.then HL3.out, NX.out.1, NX.out.2, HPB.out.trans PBS.out⟩, by simp [intOf]; omega⟩
        · have hie : i = len := by omega
          have hlt' : ¬ (i : Int) < (len : Int) := by omega
          have HPE : Aside0 (putB pl off data L = L') := ⟨by
            have := HPB.out
            rw [hie, List.drop_of_length_le (by rw [HLEN.out]; exact Nat.le_refl _)] at this
            exact this⟩
          clear hie
          go_wp2_with fail
          go_ret
          obtain ⟨A5, c5, q1, q2⟩ := FIN.out W2 _ A' c' L' L2.out HX.out HL.out HPE.out
          exact ⟨rfl, ⟨A5, c5, q1⟩, q2⟩
  · have d1 : decide (off + (len : Int) < re) = false := decide_eq_false (by omega)
    by_cases hre : off + (len : Int) > re
    · have eh : putH ⟨rm, pl, li, re, fi, false⟩ off len true = ⟨rm, pl, li, off + len, off + len, true⟩ := by unfold putH; simp; omega
      rw [eh] at FIN ⊢
      clear eh
      go_enter Try.func27, Try.ntmps27
      go_upto_region 13 with fail
      have y := (((X.out).put 3 (.int .i64 (off + len)) ⟨rm, pl, li, off + len, fi, false⟩ rfl).put 5 (.bool true) ⟨rm, pl, li, off + len, fi, true⟩ rfl).put 4 (.int .i64 (off + len)) ⟨rm, pl, li, off + len, off + len, true⟩ rfl
      have l2 := (((LfR.refl W b r).set X.out.hg 3 (.int .i64 (off + len))).set X.out.hg 5 (.bool true)).set X.out.hg 4 (.int .i64 (off + len))
      obtain ⟨W2, hW2⟩ : ∃ W2, (((W).setCell ⟨r, 3, none⟩ (.int .i64 (off + len))).setCell ⟨r, 5, none⟩ (.bool true)).setCell ⟨r, 4, none⟩ (.int .i64 (off + len)) = W2 := ⟨_, rfl⟩
      rw [hW2] at y ⊢
      have L2 : Aside0 (LfR W W2 b r) := ⟨by rw [← hW2]; exact l2⟩
      clear hW2 c0 c1 c2 c3 c4 c5 c6 f3 f4 f5 l2 X
      have Y := Aside0.mk y
      clear y
      go_wp2_with fail
      go_loopw [10] (fun v wr => RPut W2 b r ⟨rm, pl, li, off + len, off + len, true⟩ off data L v wr) (fun v _ => len - (intOf v).toNat)
      case atStart => exact ⟨0, A, c, L, Nat.zero_le _, rfl, Y.out, LfR.refl _ _ _, HIN.out, HUP.out, by simp⟩
      case round =>
        obtain ⟨i, A', c', L', hi, rfl, hx, hl2, hin, hup, hpb⟩ := hrel
        have HX := Aside0.mk hx
        have HL := Aside0.mk hl2
        have HI2 := Aside0.mk hin
        have HU2 := Aside0.mk hup
        have HPB := Aside0.mk hpb
        rw [HLEN.out] at hi
        clear hx hl2 hin hup hpb
        by_cases hlt : i < len
        · obtain ⟨d, hd⟩ : ∃ d, data[i]? = some d := ⟨_, List.getElem?_eq_getElem (by rw [HLEN.out]; exact hlt)⟩
          obtain ⟨ad, rfl, hlt0, hc⟩ := HA.out (by omega)
          have ed : wr.cell? (ad.add i) = some (.int .u8 d) := (World.cell?_of_block ((L2.out.bel.trans HL.out.bel).block _ (by rw [add_blk]; exact hlt0))).trans (hc i d hd)
          have hfew := up_few HU2.out HI2.out
          have CP : Aside0 (Calls Try.prog 79 #[.pointer (some ⟨r, 0, none⟩), .agg #[.int .i64 (off + i), .int .u8 d]] wr fun e w' => e = .returned (.tuple #[]) ∧ ∃ A3 c3, RBox w' b r ⟨rm, pl, li, off + len, off + len, true⟩ A3 c3 (putU ⟨rm, pl, li, off + len, off + len, true⟩ (off + i, d) L') ∧ LfR wr w' b r) := ⟨rput_s HX.out HU2.out (by
            by_cases hpl : pl ≤ li
            · have := hfew hpl; simp only at this; omega
            · cases L' with
              | nil => simp
              | cons q _ => have := HI2.out q List.mem_cons_self; simp only at this; omega) (by have := L2.out.bel.size; have := HL.out.bel.size; omega) (off + i, d)⟩
          have PBS := Aside0.mk (putB_step ⟨rm, pl, li, off + len, off + len, true⟩ off data i d hd L')
          have NX := Aside0.mk (inR_put (h := ⟨rm, pl, li, off + len, off + len, true⟩) (z := (off + i, d)) HU2.out HI2.out (by simp only; omega))
          clear hc hd hfew
          go_wp2_with (go_at_call 79; (with_reducible refine CP.out.mono ?_); rintro e w3 ⟨rfl, A3, c3, hx3, hl3⟩; have HX3 := Aside0.mk hx3; have HL3 := Aside0.mk hl3; clear hx3 hl3 ed)
          exact ⟨⟨i + 1, A3, c3, _, by rw [HLEN.out]; omega, by simp, HX3.out, HL.out.then HL3.out, NX.out.1, NX.out.2, HPB.out.trans PBS.out⟩, by simp [intOf]; omega⟩
        · have hie : i = len := by omega
          have hlt' : ¬ (i : Int) < (len : Int) := by omega
          have HPE : Aside0 (putB pl off data L = L') := ⟨by
            have := HPB.out
            rw [hie, List.drop_of_length_le (by rw [HLEN.out]; exact Nat.le_refl _)] at this
            exact this⟩
          clear hie
          go_wp2_with fail
          go_ret
          obtain ⟨A5, c5, q1, q2⟩ := FIN.out W2 _ A' c' L' L2.out HX.out HL.out HPE.out
          exact ⟨rfl, ⟨A5, c5, q1⟩, q2⟩
    · have eh : putH ⟨rm, pl, li, re, fi, false⟩ off len true = ⟨rm, pl, li, re, off + len, true⟩ := by unfold putH; simp; omega
      have hre' : off + (len : Int) ≤ re := by omega
      rw [eh] at FIN ⊢
      clear eh
      go_enter Try.func27, Try.ntmps27
      go_upto_region 13 with fail
      have y := ((X.out).put 5 (.bool true) ⟨rm, pl, li, re, fi, true⟩ rfl).put 4 (.int .i64 (off + len)) ⟨rm, pl, li, re, off + len, true⟩ rfl
      have l2 := ((LfR.refl W b r).set X.out.hg 5 (.bool true)).set X.out.hg 4 (.int .i64 (off + len))
      obtain ⟨W2, hW2⟩ : ∃ W2, ((W).setCell ⟨r, 5, none⟩ (.bool true)).setCell ⟨r, 4, none⟩ (.int .i64 (off + len)) = W2 := ⟨_, rfl⟩
      rw [hW2] at y ⊢
      have L2 : Aside0 (LfR W W2 b r) := ⟨by rw [← hW2]; exact l2⟩
      clear hW2 c0 c1 c2 c3 c4 c5 c6 f3 f4 f5 l2 X
      have Y := Aside0.mk y
      clear y
      go_wp2_with fail
      go_loopw [10] (fun v wr => RPut W2 b r ⟨rm, pl, li, re, off + len, true⟩ off data L v wr) (fun v _ => len - (intOf v).toNat)
      case atStart => exact ⟨0, A, c, L, Nat.zero_le _, rfl, Y.out, LfR.refl _ _ _, HIN.out, HUP.out, by simp⟩
      case round =>
        obtain ⟨i, A', c', L', hi, rfl, hx, hl2, hin, hup, hpb⟩ := hrel
        have HX := Aside0.mk hx
        have HL := Aside0.mk hl2
        have HI2 := Aside0.mk hin
        have HU2 := Aside0.mk hup
        have HPB := Aside0.mk hpb
        rw [HLEN.out] at hi
        clear hx hl2 hin hup hpb
        by_cases hlt : i < len
        · obtain ⟨d, hd⟩ : ∃ d, data[i]? = some d := ⟨_, List.getElem?_eq_getElem (by rw [HLEN.out]; exact hlt)⟩
          obtain ⟨ad, rfl, hlt0, hc⟩ := HA.out (by omega)
          have ed : wr.cell? (ad.add i) = some (.int .u8 d) := (World.cell?_of_block ((L2.out.bel.trans HL.out.bel).block _ (by rw [add_blk]; exact hlt0))).trans (hc i d hd)
          have hfew := up_few HU2.out HI2.out
          have CP : Aside0 (Calls Try.prog 79 #[.pointer (some ⟨r, 0, none⟩), .agg #[.int .i64 (off + i), .int .u8 d]] wr fun e w' => e = .returned (.tuple #[]) ∧ ∃ A3 c3, RBox w' b r ⟨rm, pl, li, re, off + len, true⟩ A3 c3 (putU ⟨rm, pl, li, re, off + len, true⟩ (off + i, d) L') ∧ LfR wr w' b r) := ⟨rput_s HX.out HU2.out (by
            by_cases hpl : pl ≤ li
            · have := hfew hpl; simp only at this; omega
            · cases L' with
              | nil => simp
              | cons q _ => have := HI2.out q List.mem_cons_self; simp only at this; omega) (by have := L2.out.bel.size; have := HL.out.bel.size; omega) (off + i, d)⟩
          have PBS := Aside0.mk (putB_step ⟨rm, pl, li, re, off + len, true⟩ off data i d hd L')
          have NX := Aside0.mk (inR_put (h := ⟨rm, pl, li, re, off + len, true⟩) (z := (off + i, d)) HU2.out HI2.out (by simp only; omega))
          clear hc hd hfew
          go_wp2_with (go_at_call 79; (with_reducible refine CP.out.mono ?_); rintro e w3 ⟨rfl, A3, c3, hx3, hl3⟩; have HX3 := Aside0.mk hx3; have HL3 := Aside0.mk hl3; clear hx3 hl3 ed)
          exact ⟨⟨i + 1, A3, c3, _, by rw [HLEN.out]; omega, by simp, HX3.out, HL.out.then HL3.out, NX.out.1, NX.out.2, HPB.out.trans PBS.out⟩, by simp [intOf]; omega⟩
        · have hie : i = len := by omega
          have hlt' : ¬ (i : Int) < (len : Int) := by omega
          have HPE : Aside0 (putB pl off data L = L') := ⟨by
            have := HPB.out
            rw [hie, List.drop_of_length_le (by rw [HLEN.out]; exact Nat.le_refl _)] at this
            exact this⟩
          clear hie
          go_wp2_with fail
          go_ret
          obtain ⟨A5, c5, q1, q2⟩ := FIN.out W2 _ A' c' L' L2.out HX.out HL.out HPE.out
          exact ⟨rfl, ⟨A5, c5, q1⟩, q2⟩
  · have d1 : decide (fi < off + (len : Int)) = false := decide_eq_false (by omega)
    by_cases hre : off + (len : Int) > re
    · have eh : putH ⟨rm, pl, li, re, fi, true⟩ off len false = ⟨rm, pl, li, off + len, fi, true⟩ := by unfold putH; simp; omega
      rw [eh] at FIN ⊢
      clear eh
      go_enter Try.func27, Try.ntmps27
      go_upto_region 13 with fail
      have y := (X.out).put 3 (.int .i64 (off + len)) ⟨rm, pl, li, off + len, fi, true⟩ rfl
      have l2 := (LfR.refl W b r).set X.out.hg 3 (.int .i64 (off + len))
      obtain ⟨W2, hW2⟩ : ∃ W2, (W).setCell ⟨r, 3, none⟩ (.int .i64 (off + len)) = W2 := ⟨_, rfl⟩
      rw [hW2] at y ⊢
      have L2 : Aside0 (LfR W W2 b r) := ⟨by rw [← hW2]; exact l2⟩
      clear hW2 c0 c1 c2 c3 c4 c5 c6 f3 f4 f5 l2 X
      have Y := Aside0.mk y
      clear y
      go_wp2_with fail
      go_loopw [10] (fun v wr => RPut W2 b r ⟨rm, pl, li, off + len, fi, true⟩ off data L v wr) (fun v _ => len - (intOf v).toNat)
      case atStart => exact ⟨0, A, c, L, Nat.zero_le _, rfl, Y.out, LfR.refl _ _ _, HIN.out, HUP.out, by simp⟩
      case round =>
        obtain ⟨i, A', c', L', hi, rfl, hx, hl2, hin, hup, hpb⟩ := hrel
        have HX := Aside0.mk hx
        have HL := Aside0.mk hl2
        have HI2 := Aside0.mk hin
        have HU2 := Aside0.mk hup
        have HPB := Aside0.mk hpb
        rw [HLEN.out] at hi
        clear hx hl2 hin hup hpb
        by_cases hlt : i < len
        · obtain ⟨d, hd⟩ : ∃ d, data[i]? = some d := ⟨_, List.getElem?_eq_getElem (by rw [HLEN.out]; exact hlt)⟩
          obtain ⟨ad, rfl, hlt0, hc⟩ := HA.out (by omega)
          have ed : wr.cell? (ad.add i) = some (.int .u8 d) := (World.cell?_of_block ((L2.out.bel.trans HL.out.bel).block _ (by rw [add_blk]; exact hlt0))).trans (hc i d hd)
          have hfew := up_few HU2.out HI2.out
          have CP : Aside0 (Calls Try.prog 79 #[.pointer (some ⟨r, 0, none⟩), .agg #[.int .i64 (off + i), .int .u8 d]] wr fun e w' => e = .returned (.tuple #[]) ∧ ∃ A3 c3, RBox w' b r ⟨rm, pl, li, off + len, fi, true⟩ A3 c3 (putU ⟨rm, pl, li, off + len, fi, true⟩ (off + i, d) L') ∧ LfR wr w' b r) := ⟨rput_s HX.out HU2.out (by
            by_cases hpl : pl ≤ li
            · have := hfew hpl; simp only at this; omega
            · cases L' with
              | nil => simp
              | cons q _ => have := HI2.out q List.mem_cons_self; simp only at this; omega) (by have := L2.out.bel.size; have := HL.out.bel.size; omega) (off + i, d)⟩
          have PBS := Aside0.mk (putB_step ⟨rm, pl, li, off + len, fi, true⟩ off data i d hd L')
          have NX := Aside0.mk (inR_put (h := ⟨rm, pl, li, off + len, fi, true⟩) (z := (off + i, d)) HU2.out HI2.out (by simp only; omega))
          clear hc hd hfew
          go_wp2_with (go_at_call 79; (with_reducible refine CP.out.mono ?_); rintro e w3 ⟨rfl, A3, c3, hx3, hl3⟩; have HX3 := Aside0.mk hx3; have HL3 := Aside0.mk hl3; clear hx3 hl3 ed)
          exact ⟨⟨i + 1, A3, c3, _, by rw [HLEN.out]; omega, by simp, HX3.out, HL.out.then HL3.out, NX.out.1, NX.out.2, HPB.out.trans PBS.out⟩, by simp [intOf]; omega⟩
        · have hie : i = len := by omega
          have hlt' : ¬ (i : Int) < (len : Int) := by omega
          have HPE : Aside0 (putB pl off data L = L') := ⟨by
            have := HPB.out
            rw [hie, List.drop_of_length_le (by rw [HLEN.out]; exact Nat.le_refl _)] at this
            exact this⟩
          clear hie
          go_wp2_with fail
          go_ret
          obtain ⟨A5, c5, q1, q2⟩ := FIN.out W2 _ A' c' L' L2.out HX.out HL.out HPE.out
          exact ⟨rfl, ⟨A5, c5, q1⟩, q2⟩
    · have eh : putH ⟨rm, pl, li, re, fi, true⟩ off len false = ⟨rm, pl, li, re, fi, true⟩ := by unfold putH; simp; omega
      have hre' : off + (len : Int) ≤ re := by omega
      rw [eh] at FIN ⊢
      clear eh
      go_enter Try.func27, Try.ntmps27
      go_upto_region 13 with fail
      have y := X.out
      have l2 := LfR.refl W b r
      obtain ⟨W2, hW2⟩ : ∃ W2, W = W2 := ⟨_, rfl⟩
      rw [hW2] at y ⊢
      have L2 : Aside0 (LfR W W2 b r) := ⟨by rw [← hW2]; exact l2⟩
      clear hW2 c0 c1 c2 c3 c4 c5 c6 f3 f4 f5 l2 X
      have Y := Aside0.mk y
      clear y
      go_wp2_with fail
      go_loopw [10] (fun v wr => RPut W2 b r ⟨rm, pl, li, re, fi, true⟩ off data L v wr) (fun v _ => len - (intOf v).toNat)
      case atStart => exact ⟨0, A, c, L, Nat.zero_le _, rfl, Y.out, LfR.refl _ _ _, HIN.out, HUP.out, by simp⟩
      case round =>
        obtain ⟨i, A', c', L', hi, rfl, hx, hl2, hin, hup, hpb⟩ := hrel
        have HX := Aside0.mk hx
        have HL := Aside0.mk hl2
        have HI2 := Aside0.mk hin
        have HU2 := Aside0.mk hup
        have HPB := Aside0.mk hpb
        rw [HLEN.out] at hi
        clear hx hl2 hin hup hpb
        by_cases hlt : i < len
        · obtain ⟨d, hd⟩ : ∃ d, data[i]? = some d := ⟨_, List.getElem?_eq_getElem (by rw [HLEN.out]; exact hlt)⟩
          obtain ⟨ad, rfl, hlt0, hc⟩ := HA.out (by omega)
          have ed : wr.cell? (ad.add i) = some (.int .u8 d) := (World.cell?_of_block ((L2.out.bel.trans HL.out.bel).block _ (by rw [add_blk]; exact hlt0))).trans (hc i d hd)
          have hfew := up_few HU2.out HI2.out
          have CP : Aside0 (Calls Try.prog 79 #[.pointer (some ⟨r, 0, none⟩), .agg #[.int .i64 (off + i), .int .u8 d]] wr fun e w' => e = .returned (.tuple #[]) ∧ ∃ A3 c3, RBox w' b r ⟨rm, pl, li, re, fi, true⟩ A3 c3 (putU ⟨rm, pl, li, re, fi, true⟩ (off + i, d) L') ∧ LfR wr w' b r) := ⟨rput_s HX.out HU2.out (by
            by_cases hpl : pl ≤ li
            · have := hfew hpl; simp only at this; omega
            · cases L' with
              | nil => simp
              | cons q _ => have := HI2.out q List.mem_cons_self; simp only at this; omega) (by have := L2.out.bel.size; have := HL.out.bel.size; omega) (off + i, d)⟩
          have PBS := Aside0.mk (putB_step ⟨rm, pl, li, re, fi, true⟩ off data i d hd L')
          have NX := Aside0.mk (inR_put (h := ⟨rm, pl, li, re, fi, true⟩) (z := (off + i, d)) HU2.out HI2.out (by simp only; omega))
          clear hc hd hfew
          go_wp2_with (go_at_call 79; (with_reducible refine CP.out.mono ?_); rintro e w3 ⟨rfl, A3, c3, hx3, hl3⟩; have HX3 := Aside0.mk hx3; have HL3 := Aside0.mk hl3; clear hx3 hl3 ed)
          exact ⟨⟨i + 1, A3, c3, _, by rw [HLEN.out]; omega, by simp, HX3.out, HL.out.then HL3.out, NX.out.1, NX.out.2, HPB.out.trans PBS.out⟩, by simp [intOf]; omega⟩
        · have hie : i = len := by omega
          have hlt' : ¬ (i : Int) < (len : Int) := by omega
          have HPE : Aside0 (putB pl off data L = L') := ⟨by
            have := HPB.out
            rw [hie, List.drop_of_length_le (by rw [HLEN.out]; exact Nat.le_refl _)] at this
            exact this⟩
          clear hie
          go_wp2_with fail
          go_ret
          obtain ⟨A5, c5, q1, q2⟩ := FIN.out W2 _ A' c' L' L2.out HX.out HL.out HPE.out
          exact ⟨rfl, ⟨A5, c5, q1⟩, q2⟩
  · subst h2
    have d1 : decide (off + (len : Int) < re) = false := decide_eq_false (by omega)
    by_cases hre : off + (len : Int) > re
    · have eh : putH ⟨rm, pl, li, re, off + len, true⟩ off len true = ⟨rm, pl, li, off + len, off + len, true⟩ := by unfold putH; simp; omega
      rw [eh] at FIN ⊢
      clear eh
      go_enter Try.func27, Try.ntmps27
      go_upto_region 13 with fail
      have y := (((X.out).put 3 (.int .i64 (off + len)) ⟨rm, pl, li, off + len, off + len, true⟩ rfl).put 5 (.bool true) ⟨rm, pl, li, off + len, off + len, true⟩ rfl).put 4 (.int .i64 (off + len)) ⟨rm, pl, li, off + len, off + len, true⟩ rfl
      have l2 := (((LfR.refl W b r).set X.out.hg 3 (.int .i64 (off + len))).set X.out.hg 5 (.bool true)).set X.out.hg 4 (.int .i64 (off + len))
      obtain ⟨W2, hW2⟩ : ∃ W2, (((W).setCell ⟨r, 3, none⟩ (.int .i64 (off + len))).setCell ⟨r, 5, none⟩ (.bool true)).setCell ⟨r, 4, none⟩ (.int .i64 (off + len)) = W2 := ⟨_, rfl⟩
      rw [hW2] at y ⊢
      have L2 : Aside0 (LfR W W2 b r) := ⟨by rw [← hW2]; exact l2⟩
      clear hW2 c0 c1 c2 c3 c4 c5 c6 f3 f4 f5 l2 X
      have Y := Aside0.mk y
      clear y
      go_wp2_with fail
      go_loopw [10] (fun v wr => RPut W2 b r ⟨rm, pl, li, off + len, off + len, true⟩ off data L v wr) (fun v _ => len - (intOf v).toNat)
      case atStart => exact ⟨0, A, c, L, Nat.zero_le _, rfl, Y.out, LfR.refl _ _ _, HIN.out, HUP.out, by simp⟩
      case round =>
        obtain ⟨i, A', c', L', hi, rfl, hx, hl2, hin, hup, hpb⟩ := hrel
        have HX := Aside0.mk hx
        have HL := Aside0.mk hl2
        have HI2 := Aside0.mk hin
        have HU2 := Aside0.mk hup
        have HPB := Aside0.mk hpb
        rw [HLEN.out] at hi
        clear hx hl2 hin hup hpb
        by_cases hlt : i < len
        · obtain ⟨d, hd⟩ : ∃ d, data[i]? = some d := ⟨_, List.getElem?_eq_getElem (by rw [HLEN.out]; exact hlt)⟩
          obtain ⟨ad, rfl, hlt0, hc⟩ := HA.out (by omega)
          have ed : wr.cell? (ad.add i) = some (.int .u8 d) := (World.cell?_of_block ((L2.out.bel.trans HL.out.bel).block _ (by rw [add_blk]; exact hlt0))).trans (hc i d hd)
          have hfew := up_few HU2.out HI2.out
          have CP : Aside0 (Calls Try.prog 79 #[.pointer (some ⟨r, 0, none⟩), .agg #[.int .i64 (off + i), .int .u8 d]] wr fun e w' => e = .returned (.tuple #[]) ∧ ∃ A3 c3, RBox w' b r ⟨rm, pl, li, off + len, off + len, true⟩ A3 c3 (putU ⟨rm, pl, li, off + len, off + len, true⟩ (off + i, d) L') ∧ LfR wr w' b r) := ⟨rput_s HX.out HU2.out (by
            by_cases hpl : pl ≤ li
            · have := hfew hpl; simp only at this; omega
            · cases L' with
              | nil => simp
              | cons q _ => have := HI2.out q List.mem_cons_self; simp only at this; omega) (by have := L2.out.bel.size; have := HL.out.bel.size; omega) (off + i, d)⟩
          have PBS := Aside0.mk (putB_step ⟨rm, pl, li, off + len, off + len, true⟩ off data i d hd L')
          have NX := Aside0.mk (inR_put (h := ⟨rm, pl, li, off + len, off + len, true⟩) (z := (off + i, d)) HU2.out HI2.out (by simp only; omega))
          clear hc hd hfew
          go_wp2_with (go_at_call 79; (with_reducible refine CP.out.mono ?_); rintro e w3 ⟨rfl, A3, c3, hx3, hl3⟩; have HX3 := Aside0.mk hx3; have HL3 := Aside0.mk hl3; clear hx3 hl3 ed)
          exact ⟨⟨i + 1, A3, c3, _, by rw [HLEN.out]; omega, by simp, HX3.out, HL.out.then HL3.out, NX.out.1, NX.out.2, HPB.out.trans PBS.out⟩, by simp [intOf]; omega⟩
        · have hie : i = len := by omega
          have hlt' : ¬ (i : Int) < (len : Int) := by omega
          have HPE : Aside0 (putB pl off data L = L') := ⟨by
            have := HPB.out
            rw [hie, List.drop_of_length_le (by rw [HLEN.out]; exact Nat.le_refl _)] at this
            exact this⟩
          clear hie
          go_wp2_with fail
          go_ret
          obtain ⟨A5, c5, q1, q2⟩ := FIN.out W2 _ A' c' L' L2.out HX.out HL.out HPE.out
          exact ⟨rfl, ⟨A5, c5, q1⟩, q2⟩
    · have eh : putH ⟨rm, pl, li, re, off + len, true⟩ off len true = ⟨rm, pl, li, re, off + len, true⟩ := by unfold putH; simp; omega
      have hre' : off + (len : Int) ≤ re := by omega
      rw [eh] at FIN ⊢
      clear eh
      go_enter Try.func27, Try.ntmps27
      go_upto_region 13 with fail
      have y := ((X.out).put 5 (.bool true) ⟨rm, pl, li, re, off + len, true⟩ rfl).put 4 (.int .i64 (off + len)) ⟨rm, pl, li, re, off + len, true⟩ rfl
      have l2 := ((LfR.refl W b r).set X.out.hg 5 (.bool true)).set X.out.hg 4 (.int .i64 (off + len))
      obtain ⟨W2, hW2⟩ : ∃ W2, ((W).setCell ⟨r, 5, none⟩ (.bool true)).setCell ⟨r, 4, none⟩ (.int .i64 (off + len)) = W2 := ⟨_, rfl⟩
      rw [hW2] at y ⊢
      have L2 : Aside0 (LfR W W2 b r) := ⟨by rw [← hW2]; exact l2⟩
      clear hW2 c0 c1 c2 c3 c4 c5 c6 f3 f4 f5 l2 X
      have Y := Aside0.mk y
      clear y
      go_wp2_with fail
      go_loopw [10] (fun v wr => RPut W2 b r ⟨rm, pl, li, re, off + len, true⟩ off data L v wr) (fun v _ => len - (intOf v).toNat)
      case atStart => exact ⟨0, A, c, L, Nat.zero_le _, rfl, Y.out, LfR.refl _ _ _, HIN.out, HUP.out, by simp⟩
      case round =>
        obtain ⟨i, A', c', L', hi, rfl, hx, hl2, hin, hup, hpb⟩ := hrel
        have HX := Aside0.mk hx
        have HL := Aside0.mk hl2
        have HI2 := Aside0.mk hin
        have HU2 := Aside0.mk hup
        have HPB := Aside0.mk hpb
        rw [HLEN.out] at hi
        clear hx hl2 hin hup hpb
        by_cases hlt : i < len
        · obtain ⟨d, hd⟩ : ∃ d, data[i]? = some d := ⟨_, List.getElem?_eq_getElem (by rw [HLEN.out]; exact hlt)⟩
          obtain ⟨ad, rfl, hlt0, hc⟩ := HA.out (by omega)
          have ed : wr.cell? (ad.add i) = some (.int .u8 d) := (World.cell?_of_block ((L2.out.bel.trans HL.out.bel).block _ (by rw [add_blk]; exact hlt0))).trans (hc i d hd)
          have hfew := up_few HU2.out HI2.out
          have CP : Aside0 (Calls Try.prog 79 #[.pointer (some ⟨r, 0, none⟩), .agg #[.int .i64 (off + i), .int .u8 d]] wr fun e w' => e = .returned (.tuple #[]) ∧ ∃ A3 c3, RBox w' b r ⟨rm, pl, li, re, off + len, true⟩ A3 c3 (putU ⟨rm, pl, li, re, off + len, true⟩ (off + i, d) L') ∧ LfR wr w' b r) := ⟨rput_s HX.out HU2.out (by
            by_cases hpl : pl ≤ li
            · have := hfew hpl; simp only at this; omega
            · cases L' with
              | nil => simp
              | cons q _ => have := HI2.out q List.mem_cons_self; simp only at this; omega) (by have := L2.out.bel.size; have := HL.out.bel.size; omega) (off + i, d)⟩
          have PBS := Aside0.mk (putB_step ⟨rm, pl, li, re, off + len, true⟩ off data i d hd L')
          have NX := Aside0.mk (inR_put (h := ⟨rm, pl, li, re, off + len, true⟩) (z := (off + i, d)) HU2.out HI2.out (by simp only; omega))
          clear hc hd hfew
          go_wp2_with (go_at_call 79; (with_reducible refine CP.out.mono ?_); rintro e w3 ⟨rfl, A3, c3, hx3, hl3⟩; have HX3 := Aside0.mk hx3; have HL3 := Aside0.mk hl3; clear hx3 hl3 ed)
          exact ⟨⟨i + 1, A3, c3, _, by rw [HLEN.out]; omega, by simp, HX3.out, HL.out.then HL3.out, NX.out.1, NX.out.2, HPB.out.trans PBS.out⟩, by simp [intOf]; omega⟩
        · have hie : i = len := by omega
          have hlt' : ¬ (i : Int) < (len : Int) := by omega
          have HPE : Aside0 (putB pl off data L = L') := ⟨by
            have := HPB.out
            rw [hie, List.drop_of_length_le (by rw [HLEN.out]; exact Nat.le_refl _)] at this
            exact this⟩
          clear hie
          go_wp2_with fail
          go_ret
          obtain ⟨A5, c5, q1, q2⟩ := FIN.out W2 _ A' c' L' L2.out HX.out HL.out HPE.out
          exact ⟨rfl, ⟨A5, c5, q1⟩, q2⟩
end Go.Proofs.Ytakmcbakogjeeaa.Ib
