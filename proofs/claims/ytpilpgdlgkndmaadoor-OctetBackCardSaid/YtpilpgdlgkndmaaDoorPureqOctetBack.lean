/- The statement OctetBack (layer 1) over numbers alone: what is put is read again, and the place behind it; no condition. -/
import Derived.Test.YtpilpgdlgkndmaaDoorQOctx3
import Derived.Test.YtpilpgdlgkndmaaDoorOctM
set_option linter.unusedVariables false
set_option linter.unusedSimpArgs false
namespace Go.Proofs.YtpilpgdlgkndmaaDoor.Pure
open Go.RowKit Go.Proofs.YtpilpgdlgkndmaaDoor.QOct Go.Proofs.YtpilpgdlgkndmaaDoorW.PrintWords Go.Proofs.YtpilpgdlgkndmaaDoorW.PrintLast Go.Proofs.YtpilpgdlgkndmaaDoorW.PrintMore Go.Proofs.YtpilpgdlgkndmaaDoor.OctM

theorem OctetBack : caravellaw01_OctetBack.Pure := by
  intro l a hm hl hw w1
  obtain ⟨a0, a1⟩ := wf_i64 w1
  have hb := all_bytes hw
  have ev := and_mask62 a a0 a1
  have hv0 : 0 ≤ a % 4611686018427387904 := by omega
  have hv1 : a % 4611686018427387904 < 4611686018427387904 := by omega
  refine ⟨12, ?_⟩
  unfold caravellaw01_OctetBack.f
  rw [ev]
  generalize a % 4611686018427387904 = v at *
  obtain ⟨n, M, nn, s, H, hM⟩ := form_of v hv0 hv1
  have hn8 := H.n8
  have p1 := putVar_ok v hv0 hM rfl H 12 (by omega) l (by omega)
  have p2 := putWide8_ok v hv0 hv1 12 (by omega) l (by omega)
  have p3 := size_ok v hv0 hM rfl H
  have q1 : octet_Var.f (l ++ layR (v + formF v * M) nn) l.length = some (v, l.length + n, 0) := by
    unfold octet_Var.f
    rw [if_pos (by rw [List.length_append, layR_len]; omega), if_pos (all_lay hb _ _), var_back H l v hv0 hM]
  have q2 : octet_Var.f (l ++ layR (v + 3 * 4611686018427387904) 8) l.length = some (v, (l.length : Int) + 8, 0) := by
    unfold octet_Var.f
    rw [if_pos (by rw [List.length_append, layR_len]; omega), if_pos (all_lay hb _ _), var_back form3 l v hv0 hv1]
  have e8 : wrap64 ((l.length : Int) + 8) = (l.length : Int) + 8 := wrap64_id (by omega) (by omega)
  have en : wrap64 ((l.length : Int) + n) = (l.length : Int) + n := wrap64_id (by have := H.nw; omega) (by have := H.nw; omega)
  have hlen : ((l ++ layR (v + formF v * M) nn).length : Int) = (l.length : Int) + n := by
    rw [List.length_append, layR_len, H.nw]; omega
  generalize l ++ layR (v + 3 * 4611686018427387904) 8 = Y at *
  simp only [p1, p2, p3, q1, q2, Option.bind_some, if_true, e8, en, hlen]
  simp
#print axioms OctetBack
end Go.Proofs.YtpilpgdlgkndmaaDoor.Pure
