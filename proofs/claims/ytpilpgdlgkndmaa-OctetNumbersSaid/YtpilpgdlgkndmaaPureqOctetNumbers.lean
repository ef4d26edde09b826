/- The statement OctetNumbers (layer 1) over numbers alone: a packet's number is told again of its lowest bytes; no condition. -/
import Derived.Test.YtpilpgdlgkndmaaQOctx3
import Derived.Test.YtpilpgdlgkndmaaOctM
namespace Go.Proofs.Ytpilpgdlgkndmaa.Pure
open Go.RowKit Go.Proofs.Ytpilpgdlgkndmaa.QOct Go.Proofs.YtpilpgdlgkndmaaW.PrintWords Go.Proofs.YtpilpgdlgkndmaaW.PrintLast Go.Proofs.Ytpilpgdlgkndmaa.OctM

theorem OctetNumbers : caravellaw01_OctetNumbers.Pure := by
  intro number acked came w0 w1 w2
  refine ⟨3, ?_⟩
  have c0 : octet_Short.f 10 (-1) = some (1, 0) := by rw [short_ok 10 (-1) (by decide) (by decide) (by decide) (by decide)]; decide
  by_cases h : 0 ≤ number ∧ number ≤ 4611686018427387903 ∧ -1 ≤ acked ∧ acked < number
  · obtain ⟨h0, h1, h2, h3⟩ := h
    simp only [caravellaw01_OctetNumbers.f, caravellaw01_OctetNumbers.j0, c0, short_ok number acked h0 h1 h2 h3, Option.bind_some]
    rw [if_pos trivial, if_neg (by decide), if_pos trivial]
    by_cases a1 : came < acked
    · rw [if_pos a1]
    · rw [if_neg a1]
      by_cases a2 : came ≥ number
      · rw [if_pos a2]
      · rw [if_neg a2]
        have e1 : wrap64 (number - acked) = number - acked := wrap64_id (by omega) (by omega)
        rw [e1]
        by_cases a3 : number - acked ≥ 2147483648
        · rw [if_pos a3]
        · rw [if_neg a3]
          obtain ⟨r1, r4⟩ := ssel_range (number - acked)
          obtain ⟨s, W, H, g1, g2, g3, g4⟩ := win_of _ r1 r4
          have hn : IntKind.u64.wrap number = number := by rw [u64_wrap]; omega
          have hW1 : IntKind.u64.wrap (W - 1) = W - 1 := by rw [u64_wrap]; have := H.w0; have := H.w1; omega
          have hd : number - acked < W / 2 := by
            have := H.w0
            unfold ssel at g1 g2 g3 g4
            by_cases b1 : number - acked < 128
            · simp only [b1, if_true] at g1; have := g1 trivial; omega
            · by_cases b2 : number - acked < 32768
              · simp only [b1, b2, if_true, if_false] at g2; have := g2 trivial; omega
              · by_cases b3 : number - acked < 8388608
                · simp only [b1, b2, b3, if_true, if_false] at g3; have := g3 trivial; omega
                · simp only [b1, b2, b3, if_false] at g4; have := g4 trivial; omega
          simp only [H.s8u, H.shu, hn, hW1, H.mask number h0 (by omega)]
          rw [if_pos H.s0]
          have hm := mod_facts number W (by have := H.w0; omega)
          rw [whole_ok H 0 _ came hm.1 hm.2 (by omega) (by omega)]
          rw [wsel_back W number (came + 1) H.w0 H.w1 H.even (by omega) (by omega) (by omega) h1]
          simp
  · simp only [caravellaw01_OctetNumbers.f, caravellaw01_OctetNumbers.j0, c0, short_bad number acked h, Option.bind_some]
    rw [if_pos trivial, if_neg (by decide), if_neg (by decide)]
    rfl
#print axioms OctetNumbers
end Go.Proofs.Ytpilpgdlgkndmaa.Pure
