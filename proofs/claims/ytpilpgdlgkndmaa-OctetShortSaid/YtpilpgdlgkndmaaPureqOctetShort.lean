/- The statement OctetShort (layer 1) over numbers alone: a number's length and a number of its lowest bytes are the document's; no condition. -/
import Derived.Test.YtpilpgdlgkndmaaQOctx3
import Derived.Test.YtpilpgdlgkndmaaOctM
set_option linter.unusedVariables false
namespace Go.Proofs.Ytpilpgdlgkndmaa.Pure
open Go.RowKit Go.Proofs.Ytpilpgdlgkndmaa.QOct Go.Proofs.YtpilpgdlgkndmaaW.PrintWords Go.Proofs.YtpilpgdlgkndmaaW.PrintLast Go.Proofs.YtpilpgdlgkndmaaW.PrintMore Go.Proofs.Ytpilpgdlgkndmaa.OctM

/-- One of the three candidates. -/
def rstep (want x : Int) (p : Int × Int) : Int × Int :=
  if x < 0 ∨ x > 4611686018427387903 then p
  else if p.1 < 0 ∨ (if x - want < 0 then want - x else x - want) ≤ p.2 then (x, if x - want < 0 then want - x else x - want) else p

theorem ref_step (k : Nat) (W want base best far i : Int) (hw : 0 ≤ W) (hw1 : W ≤ 4294967296) (h0 : 0 ≤ want) (h1 : want ≤ 4611686018427387904) (b0 : 0 ≤ base) (b1 : base ≤ 4611686022722355200) (i0 : -1 ≤ i) (i1 : i ≤ 1) :
    caravelref01_Whole.l0 (k + 2) W want base best far i = caravelref01_Whole.l0 k W want base (rstep want (base + i * W) (best, far)).1 (rstep want (base + i * W) (best, far)).2 (i + 1) := by
  have c : i = -1 ∨ i = 0 ∨ i = 1 := by omega
  have hiW : -W ≤ i * W ∧ i * W ≤ W := by rcases c with rfl | rfl | rfl <;> omega
  have e1 : wrap64 (i * W) = i * W := wrap64_id (by omega) (by omega)
  have e2 : wrap64 (base + i * W) = base + i * W := wrap64_id (by omega) (by omega)
  have e5 : wrap64 (i + 1) = i + 1 := wrap64_id (by omega) (by omega)
  generalize hx : base + i * W = x at *
  have hx0 : -4294967296 ≤ x ∧ x ≤ 4611686031312289792 := by omega
  have e3 : wrap64 (x - want) = x - want := wrap64_id (by omega) (by omega)
  have e4 : wrap64 (-(x - want)) = want - x := by rw [wrap64_id (by omega) (by omega)]; omega
  simp only [caravelref01_Whole.l0, caravelref01_Whole.j2, e1, hx, e2, e3, e4, e5]
  rw [if_pos i1]
  unfold rstep
  by_cases a1 : x < 0
  · simp [a1]
  · by_cases a2 : x > 4611686018427387903
    · simp [a1, a2]
    · simp only [a1, a2, if_false, decide_false, Bool.false_eq_true, or_false]
      by_cases a3 : x - want < 0
      · simp only [a3, if_true]
        by_cases a4 : best < 0
        · simp [a4]
        · simp only [a4, if_false, false_or]
          split <;> rfl
      · simp only [a3, if_false]
        by_cases a4 : best < 0
        · simp [a4]
        · simp only [a4, if_false, false_or]
          split <;> rfl

theorem ref_sel (W low want : Int) (h256 : 256 ≤ W) (hW : W ≤ 4294967296) (hev : W % 2 = 0) (h0 : 0 ≤ want) (h1 : want ≤ 4611686018427387904) (hl : 0 ≤ low) (hlW : low < W) :
    (rstep want (want - want % W + low + 1 * W) (rstep want (want - want % W + low + 0 * W) (rstep want (want - want % W + low + -1 * W) (-1, 0)))).1 = wsel W low want := by
  have m := mod_facts want W (by omega)
  have hmle : want % W ≤ want := by
    by_cases h : want < W
    · rw [Int.emod_eq_of_lt (by omega) h]; omega
    · omega
  unfold wsel
  rw [Int.one_mul, Int.zero_mul, Int.add_zero, Int.neg_mul, Int.one_mul]
  generalize want % W = u at *
  generalize hx : want - u + low = x at *
  unfold rstep
  simp only []
  (repeat' split) <;> first | rfl | omega

theorem ref_ok {n s W : Int} (H : Win n s W) (k : Nat) (low g : Int) (hl : 0 ≤ low) (hlW : low < W) (hg : -1 ≤ g) (hg2 : g ≤ 4611686018427387903) :
    caravelref01_Whole.f (k + 8) low n g = some (wsel W low (g + 1), 0) := by
  have hw := H.w0; have hw1 := H.w1; have hev := H.even; have n1 := H.n1; have n4 := H.n4
  have hm := mod_facts (g + 1) W (by omega)
  have e1 : wrap64 (g + 1) = g + 1 := wrap64_id (by omega) (by omega)
  have e3 : wrap64 low = low := wrap64_id (by omega) (by omega)
  have hmle : (g + 1) % W ≤ g + 1 := by
    by_cases h : g + 1 < W
    · rw [Int.emod_eq_of_lt (by omega) h]; omega
    · omega
  have ed : Int.tdiv (g + 1) W = (g + 1) / W := Int.tdiv_eq_ediv_of_nonneg (by omega)
  have d2 := Int.emod_add_mul_ediv (g + 1) W
  have dq : 0 ≤ (g + 1) / W ∧ (g + 1) / W ≤ g + 1 := ⟨Int.ediv_nonneg (by omega) (by omega), Int.ediv_le_self _ (by omega)⟩
  have e4 : wrap64 ((g + 1) / W) = (g + 1) / W := wrap64_id (by omega) (by omega)
  have em : (g + 1) / W * W = g + 1 - (g + 1) % W := by rw [Int.mul_comm]; omega
  have e5 : wrap64 (g + 1 - (g + 1) % W) = g + 1 - (g + 1) % W := wrap64_id (by omega) (by omega)
  have e6 : wrap64 (g + 1 - (g + 1) % W + low) = g + 1 - (g + 1) % W + low := wrap64_id (by omega) (by omega)
  simp only [caravelref01_Whole.f, caravelref01_Whole.j0, H.s8u, H.sh, H.shu]
  rw [if_neg (by omega), if_neg (by omega), if_pos H.s0, if_neg (by omega), if_neg (by omega)]
  rw [show decide (g > 4611686018427387903) = false from decide_eq_false (by omega)]
  simp only [Bool.false_eq_true, if_false]
  rw [if_pos H.s0, if_neg (by omega), e1, ed, e4, em, e5, e3, e6]
  rw [ref_step (k + 5) _ _ _ _ _ _ (by omega) hw1 (by omega) (by omega) (by omega) (by omega) (by decide) (by decide)]
  rw [ref_step (k + 3) _ _ _ _ _ _ (by omega) hw1 (by omega) (by omega) (by omega) (by omega) (by decide) (by decide)]
  rw [ref_step (k + 1) _ _ _ _ _ _ (by omega) hw1 (by omega) (by omega) (by omega) (by omega) (by decide) (by decide)]
  simp only [caravelref01_Whole.l0]
  rw [if_neg (by decide)]
  have := ref_sel W low (g + 1) hw hw1 hev (by omega) (by omega) hl hlW
  rw [← this]
  rfl

/-- Outside its bounds each tells the same. -/
theorem whole_bad (k : Nat) (low n g : Int) (hl : 0 ≤ low) (hl2 : low < 18446744073709551616) (h : n < 1 ∨ n > 4 ∨ g < -1 ∨ g > 4611686018427387903 ∨ ∃ s W, Win n s W ∧ W ≤ low) (hn0 : -100 ≤ n) (hn1 : n ≤ 100) :
    octet_Whole.f (k + 1) low n g = some (0, 2) ∧ caravelref01_Whole.f (k + 1) low n g = some (0, 2) := by
  by_cases c1 : n < 1
  · constructor
    · simp only [octet_Whole.f, octet_Whole.j0, c1, if_true]
    · simp only [caravelref01_Whole.f, caravelref01_Whole.j0, c1, if_true]
  by_cases c2 : n > 4
  · constructor
    · simp only [octet_Whole.f, octet_Whole.j0, c1, c2, if_true, if_false]
    · simp only [caravelref01_Whole.f, caravelref01_Whole.j0, c1, c2, if_true, if_false]
  obtain ⟨s, W, H, _⟩ := win_of n (by omega) (by omega)
  have hs := H.shr0 low hl hl2
  by_cases c3 : low < W
  · have h3 : g < -1 ∨ g > 4611686018427387903 := by
      rcases h with h | h | h | h | ⟨s', W', H', hW'⟩
      · omega
      · omega
      · exact .inl h
      · exact .inr h
      · have : W' = W := by rw [← H.sh, ← H'.sh, ← H.s8, ← H'.s8]
        omega
    by_cases c4 : g < -1
    · constructor
      · simp only [octet_Whole.f, octet_Whole.j0, H.s8, c1, c2, c4, H.s0, hs.2 c3, if_true, if_false]
      · simp only [caravelref01_Whole.f, caravelref01_Whole.j0, H.s8u, H.shu, c1, c2, c4, H.s0, if_true, if_false, show ¬ (low ≥ W) by omega]
    · have c5 : g > 4611686018427387903 := by omega
      constructor
      · simp only [octet_Whole.f, octet_Whole.j0, H.s8, c1, c2, c4, c5, H.s0, hs.2 c3, if_true, if_false, decide_true]
      · simp only [caravelref01_Whole.f, caravelref01_Whole.j0, H.s8u, H.shu, c1, c2, c4, c5, H.s0, if_true, if_false, decide_true, show ¬ (low ≥ W) by omega]
  · constructor
    · have : ¬ (shr .u64 low s = 0) := fun e => c3 (hs.1 e)
      simp only [octet_Whole.f, octet_Whole.j0, H.s8, c1, c2, H.s0, this, if_true, if_false]
    · simp only [caravelref01_Whole.f, caravelref01_Whole.j0, H.s8u, H.shu, c1, c2, H.s0, if_true, if_false, show low ≥ W by omega]

theorem whole_same (k : Nat) (low n g : Int) (hl : 0 ≤ low) (hl2 : low < 18446744073709551616) (hn0 : 0 ≤ n) (hn1 : n ≤ 5) :
    ∃ r, octet_Whole.f (k + 8) low n g = some r ∧ caravelref01_Whole.f (k + 8) low n g = some r := by
  by_cases c : n < 1 ∨ n > 4 ∨ g < -1 ∨ g > 4611686018427387903
  · have hc : n < 1 ∨ n > 4 ∨ g < -1 ∨ g > 4611686018427387903 ∨ ∃ s W, Win n s W ∧ W ≤ low := by
      rcases c with c | c | c | c
      · exact .inl c
      · exact .inr (.inl c)
      · exact .inr (.inr (.inl c))
      · exact .inr (.inr (.inr (.inl c)))
    exact ⟨_, whole_bad (k + 7) low n g hl hl2 hc (by omega) (by omega)⟩
  · obtain ⟨s, W, H, _⟩ := win_of n (by omega) (by omega)
    by_cases c3 : low < W
    · exact ⟨_, whole_ok H (k + 6) low g hl c3 (by omega) (by omega), ref_ok H k low g hl c3 (by omega) (by omega)⟩
    · exact ⟨_, whole_bad (k + 7) low n g hl hl2 (.inr (.inr (.inr (.inr ⟨s, W, H, by omega⟩)))) (by omega) (by omega)⟩

theorem short_ref_bad (k : Nat) (number acked : Int) (h : ¬ (0 ≤ number ∧ number ≤ 4611686018427387903 ∧ -1 ≤ acked ∧ acked < number)) :
    caravelref01_Short.f (k + 1) number acked = some (0, 2) := by
  simp only [caravelref01_Short.f, caravelref01_Short.j0]
  by_cases h0 : number < 0
  · simp [h0]
  · by_cases h1 : number > 4611686018427387903
    · simp [h0, h1]
    · by_cases h2 : acked < -1
      · simp [h0, h1, h2]
      · have h3 : acked ≥ number := by omega
        simp [h0, h1, h2, h3]
theorem short_ref_ok (k : Nat) (number acked : Int) (h0 : 0 ≤ number) (h1 : number ≤ 4611686018427387903) (h2 : -1 ≤ acked) (h3 : acked < number) :
    caravelref01_Short.f (k + 6) number acked = some (ssel (number - acked), 0) := by
  have e1 : wrap64 (number - acked) = number - acked := wrap64_id (by omega) (by omega)
  have p1 : IntKind.u64.wrap (wrap64 (wrap64 (8 * 1) - 1)) = 7 := by decide +kernel
  have p2 : IntKind.u64.wrap (wrap64 (wrap64 (8 * 2) - 1)) = 15 := by decide +kernel
  have p3 : IntKind.u64.wrap (wrap64 (wrap64 (8 * 3) - 1)) = 23 := by decide +kernel
  have q1 : shl .i64 1 7 = 128 := by decide +kernel
  have q2 : shl .i64 1 15 = 32768 := by decide +kernel
  have q3 : shl .i64 1 23 = 8388608 := by decide +kernel
  have a1 : wrap64 (1 + 1) = 2 := by decide +kernel
  have a2 : wrap64 (2 + 1) = 3 := by decide +kernel
  have a3 : wrap64 (3 + 1) = 4 := by decide +kernel
  have d3 : decide (acked ≥ number) = false := decide_eq_false (by omega)
  simp only [caravelref01_Short.f, caravelref01_Short.j0, caravelref01_Short.l0, e1, p1, q1, a1, p2, q2, a2, p3, q3, a3, d3]
  rw [if_neg (by omega), if_neg (by omega), if_neg (by omega)]
  unfold ssel
  by_cases b1 : number - acked < 128
  · simp [b1]
  · by_cases b2 : number - acked < 32768
    · simp [b1, b2]
    · by_cases b3 : number - acked < 8388608
      · simp [b1, b2, b3]
      · simp [b1, b2, b3]

theorem round (k : Nat) (acked low i : Int) (hl : 0 ≤ low) (hl2 : low < 18446744073709551616) (i0 : 0 ≤ i) (i5 : i ≤ 5) :
    caravellaw01_OctetShort.l0 (k + 11) acked low i = caravellaw01_OctetShort.l0 (k + 8) acked low (i + 1) := by
  have e5 : wrap64 (i + 1) = i + 1 := wrap64_id (by omega) (by omega)
  have j3 : ∀ own, 0 ≤ own → own < 18446744073709551616 → caravellaw01_OctetShort.j3 (k + 9) acked low i own = caravellaw01_OctetShort.l0 (k + 8) acked low (i + 1) := by
    intro own a b
    obtain ⟨r, r1, r2⟩ := whole_same k own i acked a b i0 i5
    simp only [caravellaw01_OctetShort.j3, r1, r2, Option.bind_some, if_true, e5]
  have j2f : caravellaw01_OctetShort.j2 (k + 10) acked low i low false = caravellaw01_OctetShort.l0 (k + 8) acked low (i + 1) := by
    simp only [caravellaw01_OctetShort.j2, Bool.false_eq_true, if_false]
    exact j3 low hl hl2
  generalize caravellaw01_OctetShort.l0 (k + 8) acked low (i + 1) = R at *
  simp only [caravellaw01_OctetShort.l0, i5, if_true]
  by_cases c1 : i ≥ 1
  · by_cases c4 : i ≤ 4
    · simp only [c1, c4, if_true]
      by_cases d : Int.tmod low 3 > 0
      · obtain ⟨s, W, H, _⟩ := win_of i (by omega) c4
        have hw := H.w0; have hw1 := H.w1
        have hW1 : IntKind.u64.wrap (W - 1) = W - 1 := by rw [u64_wrap]; omega
        have hm := mod_facts low W (by omega)
        simp only [caravellaw01_OctetShort.j2, d, decide_true, if_true, H.s8u, H.shu, hW1, H.mask low hl hl2]
        rw [if_pos H.s0]
        exact j3 _ hm.1 (by omega)
      · rw [show decide (Int.tmod low 3 > 0) = false from decide_eq_false d]
        exact j2f
    · simp only [c1, c4, if_true, if_false]
      exact j2f
  · simp only [c1, if_false]
    exact j2f

theorem OctetShort : caravellaw01_OctetShort.Pure := by
  intro number acked low w0 w1 w2
  have hl : 0 ≤ low ∧ low < 18446744073709551616 := by
    have m0 : IntKind.u64.min = 0 := by decide +kernel
    have m1 : IntKind.u64.max = 18446744073709551615 := by decide +kernel
    simp [Lit.wf] at w2
    omega
  refine ⟨40, ?_⟩
  have hloop : caravellaw01_OctetShort.l0 39 acked low 0 = some true := by
    rw [round 28 acked low 0 hl.1 hl.2 (by decide) (by decide)]
    rw [round 25 acked low _ hl.1 hl.2 (by decide) (by decide)]
    rw [round 22 acked low _ hl.1 hl.2 (by decide) (by decide)]
    rw [round 19 acked low _ hl.1 hl.2 (by decide) (by decide)]
    rw [round 16 acked low _ hl.1 hl.2 (by decide) (by decide)]
    rw [round 13 acked low _ hl.1 hl.2 (by decide) (by decide)]
    simp [caravellaw01_OctetShort.l0, caravellaw01_names.f]
  by_cases h : 0 ≤ number ∧ number ≤ 4611686018427387903 ∧ -1 ≤ acked ∧ acked < number
  · obtain ⟨h0, h1, h2, h3⟩ := h
    simp only [caravellaw01_OctetShort.f, caravellaw01_OctetShort.j0, short_ok number acked h0 h1 h2 h3, short_ref_ok 34 number acked h0 h1 h2 h3, Option.bind_some]
    simp [hloop]
  · simp only [caravellaw01_OctetShort.f, caravellaw01_OctetShort.j0, short_bad number acked h, short_ref_bad 39 number acked h, Option.bind_some]
    simp [hloop]
#print axioms OctetShort
end Go.Proofs.Ytpilpgdlgkndmaa.Pure
