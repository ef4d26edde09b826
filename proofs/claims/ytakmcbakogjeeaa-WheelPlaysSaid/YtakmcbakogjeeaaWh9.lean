/- Wheels (layer 25): slices.DeleteFunc of a key, walked; no condition. -/
import Derived.Test.YtakmcbakogjeeaaWh8
set_option linter.unusedVariables false
set_option linter.unusedSimpArgs false
namespace Go.Proofs.Ytakmcbakogjeeaa.Wh
open Go Go.RowKit Go.Maps Go.Proofs.Ytakmcbakogjeeaa.Rm Go.Proofs.Ytakmcbakogjeeaa.Rw
open Go.Proofs.YtakmcbakogjeeaaW.PrintWords Go.Proofs.YtakmcbakogjeeaaW.PrintLast Go.Proofs.YtakmcbakogjeeaaW.PrintMore
variable {W W' W2 : World} {b p m n : Nat} {now : Int} {kv : KV} {R : List Row} {x x' : Row} {F F' F2 : Nat → Prop}
theorem KeyAt.below {kb : Nat} {k : Int} (h : KeyAt W kb k) (hb : Below W.heap.size W W') : KeyAt W' kb k := (hb.block kb (Array.getElem?_eq_some_iff.1 h).1).trans h
theorem key_set {kb g i : Nat} {k : Int} {u v : Value} (h : KeyAt W kb k) (hn : kb ≠ g) : KeyAt ((W.setCell ⟨g, i * 2, none⟩ u).setCell ⟨g, i * 2 + 1, none⟩ v) kb k :=
  (Below.heap_setCell _ ⟨g, i * 2 + 1, none⟩ _ kb hn).trans ((Below.heap_setCell W ⟨g, i * 2, none⟩ _ kb hn).trans h)
set_option maxRecDepth 100000 in
set_option maxHeartbeats 1600000 in
theorem del_row {g c : Nat} {L : List Tm} (h : RowAt W b (.slice (some ⟨g, 0, none⟩) L.length c, L)) (hl : L.length ≤ 1099511627776) {kb : Nat} {k : Int} (hk : KeyAt W kb k) :
    Calls Try.prog 85 #[.slice (some ⟨g, 0, none⟩) L.length c, keyF kb] W fun e w' =>
      e = .returned (.slice (some ⟨g, 0, none⟩) (without k L).length c) ∧ RowAt w' b (.slice (some ⟨g, 0, none⟩) (without k L).length c, without k L) ∧ W.grownBy w' (some g) := by
  have H := Aside0.mk h
  have HK := Aside0.mk hk
  have HI := Aside0.mk (idx_row h hl hk)
  rcases h.2 with ⟨h0, _⟩ | ⟨g', c, cur, h1, hbg, hblk, hlc, hcm, hcs, htk⟩
  · injection h0 with h0 _ _
    cases h0
  injection h1 with h1 h2 h3
  injection h1 with h1
  injection h1 with h1
  subst h1; subst h3
  simp only at hlc htk
  have HC := Aside0.mk (And.intro hblk (And.intro hcs (And.intro htk hcm)))
  have hlL := tcells_len L
  clear h hk hblk hcs htk hcm h2
  have hL0 : (L.length : Int) ≤ 1099511627776 := by omega
  go_enter Try.func85, Try.ntmps85
  go_wp2_with (go_at_call 117; (with_reducible refine HI.out.mono ?_); rintro e w1 ⟨hb1, ⟨rfl, hno⟩ | ⟨j0, t0, rfl, hj0, ht0, hbef⟩⟩ <;> first | (have hjl := (List.getElem?_eq_some_iff.1 hj0).1; have hne : ((j0 : Int) == -1) = false := beq_false_of_ne (by omega)) | skip)
  · go_ret
    have e0 : without k L = L := without_self hno
    rw [e0]
    exact ⟨rfl, RowAt.move H.out (fun q hq => hb1.block q (by
      obtain ⟨_, cs, hc⟩ := RowAt.block H.out hq
      exact (Array.getElem?_eq_some_iff.1 hc).1)), ⟨hb1.os, hb1.tape, hb1.output, hb1.size, fun q hq _ => hb1.block q hq⟩⟩
  · have e0 : without k (L.take j0) = L.take j0 := without_self hbef
    have HS := Aside0.mk (show DelAt W w1 g c cur L k j0 (j0 + 1) cur from ⟨by rw [without_take k L j0 t0 hj0, if_pos ht0, List.append_nil, e0, List.length_take]; omega, by omega, hjl, (hb1.block g (Array.getElem?_eq_some_iff.1 HC.out.1).1).trans HC.out.1, rfl, by
      rw [without_take k L j0 t0 hj0, if_pos ht0, List.append_nil, e0, ← tcells_take, ← HC.out.2.2.1, List.take_take, Nat.min_eq_left (by omega)], fun q _ => rfl, ⟨hb1.os, hb1.tape, hb1.output, hb1.size, fun q hq _ => hb1.block q hq⟩⟩)
    clear hbef e0 hj0 ht0
    go_wp2_with fail
    go_loopw [5, 6] (fun iv jv W' => ∃ (i j : Nat) (cur' : Array Value), iv = .int .i64 i ∧ jv = .int .i64 j ∧ DelAt W W' g c cur L k i j cur' ∧ KeyAt W' kb k) (fun _ jv _ => L.length - (intOf jv).toNat)
    case atStart => exact ⟨j0, j0 + 1, cur, rfl, by simp, HS.out, (hb1.block kb (Array.getElem?_eq_some_iff.1 HK.out).1).trans HK.out⟩
    case round =>
      clear HS hb1
      obtain ⟨i, j, cur', rfl, rfl, hd, hkk⟩ := hrel
      have HD := Aside0.mk hd
      have HKK := Aside0.mk hkk
      have hij := hd.hij
      have hjL := hd.hj
      clear hd hkk
      by_cases hlt : j < L.length
      · obtain ⟨t, ho⟩ : ∃ t, L[j]? = some t := ⟨_, List.getElem?_eq_getElem hlt⟩
        have HO := Aside0.mk ho
        have hcur : ∀ q v, j * 2 ≤ q → (tcells L)[q]? = some v → q < L.length * 2 → wr.cell? ⟨g, q, none⟩ = some v := fun q v h1 h2 h3 => by
          rw [cell_of_row _ _ _ _ _ _ HD.out.blk, HD.out.rest q h1, ← h2, ← HC.out.2.2.1, List.getElem?_take, if_pos h3]
          simp
        have c0 := hcur (j * 2) _ (by omega) (tcells_at L j t ho).1 (by omega)
        have c1 := hcur (j * 2 + 1) _ (by omega) (tcells_at L j t ho).2 (by omega)
        have CC := Aside0.mk (fun w (h : KeyAt w kb k) => clo_s (W := w) (kb := kb) (k := k) h t)
        obtain ⟨rb, hrb⟩ : ∃ rb, (t.1 == k) = rb := ⟨_, rfl⟩
        simp only [hrb] at CC
        have HRB := Aside0.mk hrb
        have HA := Aside0.mk (below_alloc (Below.refl _ wr) (.cells #[.int .i64 t.1, .int .i64 t.2] 160 (0, 0)))
        have hnv := heap_alloc_new wr (.cells #[.int .i64 t.1, .int .i64 t.2] 160 (0, 0))
        obtain ⟨u0, u1, hst⟩ := HD.out.room (by rw [HC.out.2.1]; omega)
        have HST := Aside0.mk hst
        have v0 := fun (w' : World) (hb : Below (wr.alloc (.cells #[.int .i64 t.1, .int .i64 t.2] 160 (0, 0))).heap.size (wr.alloc (.cells #[.int .i64 t.1, .int .i64 t.2] 160 (0, 0))) w') => (hb.block _ (Array.getElem?_eq_some_iff.1 hnv).1).trans hnv
        have HV := Aside0.mk v0
        clear ho hcur hrb hst v0 hnv
        cases rb with
        | true =>
          go_wp2_with (go_at_call 86; (with_reducible refine (CC.out _ ((HA.out.block kb (Array.getElem?_eq_some_iff.1 HKK.out).1).trans HKK.out)).mono ?_); rintro e w' ⟨rfl, hb⟩)
          go_roundw
          case rel => exact ⟨i, j + 1, cur', rfl, by go_num, HD.out.skip (HA.out.trans (hb.mono HA.out.size)) HO.out (by simpa using HRB.out), ((HA.out.trans (hb.mono HA.out.size)).block kb (Array.getElem?_eq_some_iff.1 HKK.out).1).trans HKK.out⟩
          case measure => simp [intOf]; omega
        | false =>
          go_wp2_with (go_at_call 86; (with_reducible refine (CC.out _ ((HA.out.block kb (Array.getElem?_eq_some_iff.1 HKK.out).1).trans HKK.out)).mono ?_); rintro e w' ⟨rfl, hb⟩; have HBB := Aside0.mk (HA.out.trans (hb.mono HA.out.size)); obtain ⟨s0, s1, f0, f1⟩ := HST.out w' HBB.out; have hvv := HV.out w' hb; have v0 : w'.cell? ⟨wr.heap.size, 0, none⟩ = some (.int .i64 t.1) := (by rw [cell_of_row _ _ _ _ _ _ hvv]; rfl); have v1 : w'.cell? ⟨wr.heap.size, 1, none⟩ = some (.int .i64 t.2) := (by rw [cell_of_row _ _ _ _ _ _ hvv]; rfl); clear hvv hb)
          go_roundw
          case rel => exact ⟨i + 1, j + 1, _, by go_num, by go_num, HD.out.keep (by rw [HC.out.2.1]; omega) HBB.out HO.out (by simpa using HRB.out), key_set (HKK.out.below HBB.out) (fun q => by
            have := HD.out.blk
            rw [← q, HKK.out] at this
            cases this)⟩
          case measure => simp [intOf]; omega
      · obtain rfl : j = L.length := by omega
        obtain ⟨wz, hcl, hfin⟩ : ∃ wz, (∀ ty dc, (Builtin.clear_ #[69] ty #[.slice (some ⟨g, i * 2, none⟩) (L.length - i) dc]).run Try.prog wr = .ok (.tuple #[]) wz) ∧ RowAt wz b (.slice (some ⟨g, 0, none⟩) (without k L).length c, without k L) ∧ W.grownBy wz (some g) :=
          ⟨_, fun ty dc => clear_run HD.out.blk i (L.length - i) dc (by rw [HD.out.size, HC.out.2.1]; omega) ty, HD.out.fin hbg HC.out.2.1 hlc HC.out.2.2.2⟩
        have HF := Aside0.mk hfin
        have hi := HD.out.hi
        rw [List.take_length] at hi
        have HI2 := Aside0.mk hi
        clear hfin hi
        go_wp2_with (with_reducible refine wpList_clear_run _ rfl _ 69 rfl _ rfl (hcl _ _) ?_)
        go_ret
        refine ⟨?_, HF.out⟩
        rw [← HI2.out]
        rfl
set_option maxRecDepth 100000 in
theorem del_nil (f : Value) (W : World) : Calls Try.prog 85 #[.slice none 0 0, f] W fun e w' => e = .returned (.slice none 0 0) ∧ W = w' := by
  have HI := Aside0.mk (idx_nil (W := W) f)
  go_enter Try.func85, Try.ntmps85
  go_wp2_with (go_at_call 117; (with_reducible refine HI.out.mono ?_); rintro e w1 ⟨rfl, rfl⟩)
  go_ret
  exact ⟨rfl, rfl⟩
/-- Without a key. -/
theorem del_s (h : RowAt W b x) (hl : x.2.length ≤ 1099511627776) {kb : Nat} {k : Int} (hk : KeyAt W kb k) :
    Calls Try.prog 85 #[x.1, keyF kb] W fun e w' => ∃ G c, e = .returned (.slice G (without k x.2).length c) ∧ RowAt w' b (.slice G (without k x.2).length c, without k x.2) ∧ W.grownBy w' x.1.ownBlock ∧ (Value.slice G (without k x.2).length c).ownBlock = x.1.ownBlock := by
  obtain ⟨v, L⟩ := x
  rcases h.shape with ⟨h1, h2⟩ | ⟨g, c, h1⟩
  · simp only at h1 h2
    subst h1; subst h2
    refine (del_nil _ W).mono ?_
    rintro e w' ⟨rfl, rfl⟩
    exact ⟨none, 0, rfl, h, ⟨rfl, rfl, rfl, Nat.le_refl _, fun _ _ _ => rfl⟩, rfl⟩
  · simp only at h1
    subst h1
    refine (del_row h hl hk).mono ?_
    rintro e w' ⟨rfl, h2, h3⟩
    exact ⟨_, c, rfl, h2, h3, rfl⟩
end Go.Proofs.Ytakmcbakogjeeaa.Wh
