/- SeenSoon: the law's walk; no condition but the reach of its arguments. -/
import Derived.Test.YtmkojmjjlcfohaaSeen4
set_option linter.unusedVariables false
set_option linter.unusedSimpArgs false
namespace Go.Proofs.Ytmkojmjjlcfohaa.Rg
open Go.RowKit Go.Shelf Go.Proofs.YtmkojmjjlcfohaaW.PrintWords Go.Proofs.YtmkojmjjlcfohaaW.PrintLast Go.Proofs.YtmkojmjjlcfohaaW.PrintMore Go.Proofs.Ytmkojmjjlcfohaa.Rw
theorem mask_le (x : Int) (m : Nat) (hm : m < 4611686018427387904) : 0 ≤ bits .and .i64 x m ∧ bits .and .i64 x m ≤ m := by
  have h : (BitVec.ofInt 64 x &&& BitVec.ofInt 64 (m : Int)).toNat ≤ m := by
    rw [BitVec.toNat_and]
    refine Nat.le_trans Nat.and_le_right ?_
    rw [BitVec.ofInt_natCast, BitVec.toNat_ofNat]
    exact Nat.mod_le _ _
  have e : bits .and .i64 x m = IntKind.i64.wrap ((BitVec.ofInt 64 x &&& BitVec.ofInt 64 (m : Int)).toNat : Int) := rfl
  rw [e, IntKind.wrap_i64]
  omega
structure SRel (w0 : World) (gs g : Nat) (dl : Int) (n : Nat) (k : Nat) (first gr cm nw wt du : Int) (is : Bool) (W : World) : Prop where
  s : SnB w0 gs g (sn g dl gr cm nw wt du is) W
  hk : k ≤ n
  hk2 : k ≤ 1000
  g0 : -1 ≤ gr
  g1 : gr ≤ 65535
  m0 : 0 ≤ cm
  m1 : cm ≤ nw
  w0' : 0 ≤ nw
  w1 : nw ≤ 10 * k
  t0 : 0 ≤ wt
  t1 : wt ≤ k
  u0 : 0 ≤ du
  u1 : du ≤ 2000000
  f : (first = -1 ∧ is = false) ∨ (0 ≤ first ∧ first ≤ 10 * k ∧ is = true ∧ first ≤ du ∧ du ≤ first + dl)
theorem soon_cases {w0 W w' : World} {gs g n k : Nat} {dl first gr cm nw wt du : Int} {is b : Bool} {e : Ending} (hr : SRel w0 gs g dl n k first gr cm nw wt du is W) (hd0 : 0 ≤ dl) (hd1 : dl ≤ 1048575) (hk : k < n) (hk2 : k < 1000) (h : takeR w0 gs g dl gr cm nw wt du is b (10 * k) e w') :
    ∃ gr' cm' wt' du', (first = -1 ∧ e = .returned (.tuple #[.bool false, .int .i64 0]) ∧ SRel w0 gs g dl n (k + 1) (-1) gr' cm' (10 * k) wt' du' false w') ∨
      (first = -1 ∧ b = false ∧ e = .returned (.tuple #[.bool true, .int .i64 0]) ∧ SRel w0 gs g dl n (k + 1) (-1) gr' cm' (10 * k) wt' du' false w') ∨
      (first = -1 ∧ b = true ∧ e = .returned (.tuple #[.bool true, .int .i64 0]) ∧ SRel w0 gs g dl n (k + 1) (10 * k) gr' cm' (10 * k) wt' du' true w') ∨
      (0 ≤ first ∧ e = .returned (.tuple #[.bool true, .int .i64 0]) ∧ SRel w0 gs g dl n (k + 1) first gr' cm' (10 * k) wt' du' true w') ∨
      (0 ≤ first ∧ e = .returned (.tuple #[.bool false, .int .i64 0]) ∧ SRel w0 gs g dl n (k + 1) first gr' cm' (10 * k) wt' du' true w') := by
  obtain ⟨fr, gr', cm', wt', du', is', he, hs, hg, hc, hw, h0, h1⟩ := h
  have hkk : ((k + 1 : Nat) : Int) = (k : Int) + 1 := by omega
  have mk : ∀ (f' : Int), 0 ≤ du' → du' ≤ 2000000 → ((f' = -1 ∧ is' = false) ∨ (0 ≤ f' ∧ f' ≤ 10 * ((k + 1 : Nat) : Int) ∧ is' = true ∧ f' ≤ du' ∧ du' ≤ f' + dl)) → SRel w0 gs g dl n (k + 1) f' gr' cm' (10 * k) wt' du' is' w' :=
    fun f' a1 a2 hf => ⟨hs, by omega, by omega, hg.1, hg.2, hc.1, hc.2, by omega, by omega, by have := hr.t0; omega, by have := hr.t1; omega, a1, a2, hf⟩
  refine ⟨gr', cm', wt', du', ?_⟩
  have u0 := hr.u0
  have u1 := hr.u1
  rcases hr.f with ⟨hf, hi⟩ | ⟨f0, f1, hi, f2, f3⟩
  · cases hfb : (fr && b)
    · obtain ⟨e1, e2⟩ := h0 hfb
      have hn := mk (-1) (by omega) (by omega) (.inl ⟨rfl, by rw [e1, hi]⟩)
      rw [e1, hi] at hn
      cases fr
      · exact .inl ⟨hf, he, hn⟩
      · exact .inr (.inl ⟨hf, by simpa using hfb, he, hn⟩)
    · obtain ⟨e1, a, ha, e2, e3⟩ := h1 hfb
      have e2' := e2 hi
      have hn := mk (10 * k) (by omega) (by omega) (.inr ⟨by omega, by omega, e1, by omega, by omega⟩)
      rw [e1] at hn
      simp at hfb
      rw [hfb.1] at he
      exact .inr (.inr (.inl ⟨hf, hfb.2, he, hn⟩))
  · have hi' : is' = true ∧ 0 ≤ du' ∧ du' ≤ 2000000 ∧ first ≤ du' ∧ du' ≤ first + dl := by
      cases hfb : (fr && b)
      · obtain ⟨e1, e2⟩ := h0 hfb
        exact ⟨e1.trans hi, by omega, by omega, by omega, by omega⟩
      · obtain ⟨e1, a, ha, e2, e3⟩ := h1 hfb
        rcases e3 hi with ⟨h2, h3⟩ | h2
        · exact ⟨e1, by omega, by omega, by omega, by omega⟩
        · exact ⟨e1, by omega, by omega, by omega, by omega⟩
    have hn := mk first hi'.2.1 hi'.2.2.1 (.inr ⟨f0, by omega, hi'.1, hi'.2.2.2.1, hi'.2.2.2.2⟩)
    rw [hi'.1] at hn
    cases fr
    · exact .inr (.inr (.inr (.inr ⟨f0, he, hn⟩)))
    · exact .inr (.inr (.inr (.inl ⟨f0, he, hn⟩)))
theorem came_one {w : World} {α : Type} {d : Kd α} {A : Option Addr} {xs : List α} {k : Nat} {x : α} {v : Value} (h : Kd.C d w A xs.length xs) (hd : d.sz = 1) (hv : ∀ cs, d.K w x cs → cs = [v]) (hk : xs[k]? = some x) : ∃ ad, A = some ad ∧ w.cell? (ad.add k) = some v := by
  have hlt := (List.getElem?_eq_some_iff.1 hk).1
  obtain ⟨ad, hA, hq⟩ := h.2.2 (by omega)
  obtain ⟨cs, _, hK, hcell⟩ := hq k x hk
  have e0 := hv cs hK
  subst e0
  have := hcell 0 _ rfl
  rw [hd, Nat.mul_one] at this
  exact ⟨ad, hA, this⟩
set_option maxRecDepth 100000 in
set_option maxHeartbeats 4000000 in
theorem soon_walk (dl0 : Int) (A1 : Option Addr) (l : List Int) (c1 : Nat) (A2 : Option Addr) (el : List Bool) (c2 : Nat) (w0 : World)
    (hr1 : Kd.C (Kd.int .i64) w0 A1 l.length l) (hl1 : l.length ≤ 140737488351232) (hr2 : Kd.C Kd.bool w0 A2 el.length el) (hl2 : el.length ≤ 140737488351232) :
    Calls Try.prog 6 #[.int .i64 dl0, .slice A1 l.length c1, .slice A2 el.length c2] w0 fun e w' => e = .returned (.bool true) ∧ Below w0.heap.size w0 w' := by
  have HR1 := Aside0.mk hr1
  have HR2 := Aside0.mk hr2
  have hn1 : (l.length : Int) ≤ 140737488351232 := by omega
  have hn2 : (el.length : Int) ≤ 140737488351232 := by omega
  clear hr1 hl1 hr2 hl2
  go_enter Try.func6, Try.ntmps6
  have hdl := mask_le dl0 1048575 (by omega)
  have hcast : ((1048575 : Nat) : Int) = 1048575 := rfl
  rw [hcast] at hdl
  clear hcast
  go_wp2_with (go_at_call 23; refine (new_sn _ hdl.1 (by omega) (Below.refl _ _)).mono ?_; rintro e w1 ⟨gs, g, rfl, hs⟩; have HS := Aside0.mk hs; clear hs; obtain ⟨dl, hdlq⟩ : ∃ dl, bits BinOp.and IntKind.i64 dl0 1048575 = dl := ⟨_, rfl⟩; rw [hdlq] at HS hdl ⊢; clear hdlq)
  go_loopw [9, 10, 11, 12, 13, 14, 15] (fun fv i _ _ _ _ _ W => ∃ (k : Nat) (first gr cm nw wt du : Int) (is : Bool), fv = .int .i64 first ∧ i = .int .i64 k ∧ SRel w0 gs g dl l.length k first gr cm nw wt du is W) (fun _ i _ _ _ _ _ _ => l.length - (intOf i).toNat)
  case atStart => exact ⟨0, -1, -1, 0, 0, 0, 0, false, rfl, rfl, HS.out, by omega, by omega, by omega, by omega, by omega, by omega, by omega, by omega, by omega, by omega, by omega, by omega, .inl ⟨rfl, rfl⟩⟩
  case round =>
    clear HS
    obtain ⟨k, first, gr, cm, nw, wt, du, is, rfl, rfl, hr⟩ := hrel
    have HR := Aside0.mk hr
    have hk2 := hr.hk2
    clear hr
    by_cases hlt : k < l.length ∧ k < 1000
    · obtain ⟨x, hx⟩ : ∃ x, l[k]? = some x := ⟨_, List.getElem?_eq_getElem hlt.1⟩
      obtain ⟨ad, hA1, g0⟩ := came_one (v := .int .i64 x) HR1.out rfl (fun cs h => h) hx
      subst hA1
      have e0 := pw_cell_below HR.out.s.bel g0
      have hk1 : (k : Int) < (l.length : Int) := by omega
      have hk3 : (k : Int) < 1000 := by omega
      have HM := Aside0.mk (mask_le x 65535 (by omega))
      clear g0 hx
      by_cases hel : k < el.length
      · obtain ⟨b, hb⟩ : ∃ b, el[k]? = some b := ⟨_, List.getElem?_eq_getElem hel⟩
        obtain ⟨ad2, hA2, g0⟩ := came_one (v := .bool b) HR2.out rfl (fun cs h => h) hb
        subst hA2
        have e1 := pw_cell_below HR.out.s.bel g0
        have hk4 : (k : Int) < (el.length : Int) := by omega
        clear g0 hb
        cases b
        · go_wp2_with (first | (go_at_call 24; refine (take_sn HR.out.s _ _ (10 * k) HM.out.1 HM.out.2 HR.out.w1 (by omega) hdl.1 hdl.2 HR.out.w0' HR.out.g0 HR.out.g1 HR.out.m0 HR.out.m1 HR.out.t0 (by have := HR.out.t1; omega) HR.out.u0 HR.out.u1).mono ?_; intro e W2 ht; have hcs := soon_cases HR.out hdl.1 hdl.2 hlt.1 hlt.2 ht; clear ht; obtain ⟨gr', cm', wt', du', hcs⟩ := hcs; rcases hcs with ⟨rfl, rfl, hn⟩ | ⟨rfl, hb, rfl, hn⟩ | ⟨rfl, hb, rfl, hn⟩ | ⟨hf0, rfl, hn⟩ | ⟨hf0, rfl, hn⟩ <;> (first | exact absurd hb (by decide) | (have HN := Aside0.mk hn; have hf := hn.f; have hu0 := hn.u0; clear hn))) | (go_at_call 25; refine (due_sn HN.out.s).mono ?_; rintro e W3 ⟨rfl, rfl⟩))
          all_goals exact ⟨⟨k + 1, _, _, _, _, _, _, _, rfl, by simp, HN.out⟩, by have := hlt.1; simp [intOf]; omega⟩
        · go_wp2_with (first | (go_at_call 24; refine (take_sn HR.out.s _ _ (10 * k) HM.out.1 HM.out.2 HR.out.w1 (by omega) hdl.1 hdl.2 HR.out.w0' HR.out.g0 HR.out.g1 HR.out.m0 HR.out.m1 HR.out.t0 (by have := HR.out.t1; omega) HR.out.u0 HR.out.u1).mono ?_; intro e W2 ht; have hcs := soon_cases HR.out hdl.1 hdl.2 hlt.1 hlt.2 ht; clear ht; obtain ⟨gr', cm', wt', du', hcs⟩ := hcs; rcases hcs with ⟨rfl, rfl, hn⟩ | ⟨rfl, hb, rfl, hn⟩ | ⟨rfl, hb, rfl, hn⟩ | ⟨hf0, rfl, hn⟩ | ⟨hf0, rfl, hn⟩ <;> (first | exact absurd hb (by decide) | (have HN := Aside0.mk hn; have hf := hn.f; have hu0 := hn.u0; clear hn))) | (go_at_call 25; refine (due_sn HN.out.s).mono ?_; rintro e W3 ⟨rfl, rfl⟩))
          all_goals exact ⟨⟨k + 1, _, _, _, _, _, _, _, rfl, by simp, HN.out⟩, by have := hlt.1; simp [intOf]; omega⟩
      · have hk4 : ¬ (k : Int) < (el.length : Int) := by omega
        go_wp2_with (first | (go_at_call 24; refine (take_sn HR.out.s _ _ (10 * k) HM.out.1 HM.out.2 HR.out.w1 (by omega) hdl.1 hdl.2 HR.out.w0' HR.out.g0 HR.out.g1 HR.out.m0 HR.out.m1 HR.out.t0 (by have := HR.out.t1; omega) HR.out.u0 HR.out.u1).mono ?_; intro e W2 ht; have hcs := soon_cases HR.out hdl.1 hdl.2 hlt.1 hlt.2 ht; clear ht; obtain ⟨gr', cm', wt', du', hcs⟩ := hcs; rcases hcs with ⟨rfl, rfl, hn⟩ | ⟨rfl, hb, rfl, hn⟩ | ⟨rfl, hb, rfl, hn⟩ | ⟨hf0, rfl, hn⟩ | ⟨hf0, rfl, hn⟩ <;> (first | exact absurd hb (by decide) | (have HN := Aside0.mk hn; have hf := hn.f; have hu0 := hn.u0; clear hn))) | (go_at_call 25; refine (due_sn HN.out.s).mono ?_; rintro e W3 ⟨rfl, rfl⟩))
        all_goals exact ⟨⟨k + 1, _, _, _, _, _, _, _, rfl, by simp, HN.out⟩, by have := hlt.1; simp [intOf]; omega⟩
    · have hend : ¬ (k : Int) < (l.length : Int) ∨ ¬ (k : Int) < 1000 := by omega
      clear hlt
      by_cases hk5 : (k : Int) < (l.length : Int)
      · have hk6 : ¬ (k : Int) < 1000 := by omega
        clear hend
        go_wp2_with (first | (go_at_call 26; refine (sent_sn HR.out.s 1125899906842624 HR.out.m0 (by have := HR.out.m1; have := HR.out.w1; omega) (by omega)).mono ?_; rintro e W2 ⟨x, rfl, hs⟩; have HS := Aside0.mk hs; clear hs) | (go_at_call 25; refine (due_sn HS.out).mono ?_; rintro e W3 ⟨rfl, rfl⟩))
        go_ret
        exact ⟨rfl, HS.out.bel⟩
      · clear hend
        go_wp2_with (first | (go_at_call 26; refine (sent_sn HR.out.s 1125899906842624 HR.out.m0 (by have := HR.out.m1; have := HR.out.w1; omega) (by omega)).mono ?_; rintro e W2 ⟨x, rfl, hs⟩; have HS := Aside0.mk hs; clear hs) | (go_at_call 25; refine (due_sn HS.out).mono ?_; rintro e W3 ⟨rfl, rfl⟩))
        go_ret
        exact ⟨rfl, HS.out.bel⟩
theorem soon_row (dl0 : Int) (A1 : Option Addr) (l : List Int) (c1 : Nat) (A2 : Option Addr) (el : List Bool) (c2 : Nat) (w0 : World)
    (hr1 : Kd.C (Kd.int .i64) w0 A1 l.length l) (hl1 : l.length * Try.prog.bytesOf 3 ≤ reachBytes) (hr2 : Kd.C Kd.bool w0 A2 el.length el) (hl2 : el.length * Try.prog.bytesOf 4 ≤ reachBytes) :
    Calls Try.prog 6 #[.int .i64 dl0, .slice A1 l.length c1, .slice A2 el.length c2] w0 fun e w' => e = .returned (.bool true) ∧ Below w0.heap.size w0 w' := by
  have e1 : Try.prog.bytesOf 3 = 8 := by kernel_rfl
  have e2 : Try.prog.bytesOf 4 = 1 := by kernel_rfl
  have e4 : reachBytes = 140737488351232 := by decide +kernel
  rw [e1, e4] at hl1
  rw [e2, e4] at hl2
  exact soon_walk dl0 A1 l c1 A2 el c2 w0 hr1 (by omega) hr2 (by omega)
end Go.Proofs.Ytmkojmjjlcfohaa.Rg
