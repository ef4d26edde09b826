/- The statement OctetReads (layer 1) over numbers alone: at any place of any bytes any number is read as the document says, or not; no condition. -/
import Derived.Test.YtpilpgdlgkndmaaDoorQOctx1
set_option linter.unusedVariables false
set_option linter.unusedSimpArgs false
namespace Go.Proofs.YtpilpgdlgkndmaaDoor.Pure
open Go.RowKit Go.Proofs.YtpilpgdlgkndmaaDoor.QOct Go.Proofs.YtpilpgdlgkndmaaDoorW.PrintWords Go.Proofs.YtpilpgdlgkndmaaDoorW.PrintLast Go.Proofs.YtpilpgdlgkndmaaDoorW.PrintMore

theorem all_bytes {l : List Int} (h : ∀ x ∈ l, (Lit.int .u8 x).wf = true) : List.all l (fun x => decide (0 ≤ x ∧ x < 256)) = true := by
  rw [List.all_eq_true]
  intro x hx
  have := h x hx
  have m0 : IntKind.u8.min = 0 := by decide +kernel
  have m1 : IntKind.u8.max = 255 := by decide +kernel
  simp [Lit.wf] at this
  simp
  omega
theorem all_mid {l : List Int} (h : List.all l (fun x => decide (0 ≤ x ∧ x < 256)) = true) (a b : Nat) : List.all ((l.take a).drop b) (fun x => decide (0 ≤ x ∧ x < 256)) = true := by
  rw [List.all_eq_true] at h ⊢
  intro x hx
  exact h x (List.mem_of_mem_take (List.mem_of_mem_drop hx))

theorem get_same (k : Nat) (l : List Int) (a n : Int) : octet_Get.f k l a n = caravelref01_Get.f k l a n := by
  have j : ∀ k (l : List Int) a n b, octet_Get.j0 k l a n b = caravelref01_Get.j0 k l a n b := by
    intro k l a n b
    cases k with
    | zero => rfl
    | succ k => rfl
  simp only [octet_Get.f, caravelref01_Get.f, j]
theorem get_some (l : List Int) (a n : Int) (hl : l.length ≤ 140737488355328) (hb : List.all l (fun x => decide (0 ≤ x ∧ x < 256)) = true) : ∃ r, octet_Get.f 1 l a n = some r := by
  by_cases c1 : n < 1
  · exact ⟨(0, 0, 2), by simp only [octet_Get.f, octet_Get.j0, c1, if_true]⟩
  by_cases c2 : n > 8
  · exact ⟨(0, 0, 2), by simp only [octet_Get.f, octet_Get.j0, c1, c2, if_true, if_false]⟩
  by_cases c3 : a < 0
  · exact ⟨(0, 0, 2), by simp only [octet_Get.f, octet_Get.j0, c1, c2, c3, if_true, if_false]⟩
  by_cases c4 : a > (l.length : Int)
  · exact ⟨(0, 0, 2), by simp only [octet_Get.f, octet_Get.j0, c1, c2, c3, c4, if_true, if_false, decide_true]⟩
  have e1 : wrap64 ((l.length : Int) - a) = (l.length : Int) - a := by unfold wrap64; omega
  have e2 : wrap64 (a + n) = a + n := by unfold wrap64; omega
  by_cases c5 : (l.length : Int) - a < n
  · exact ⟨(0, 0, 10), by simp only [octet_Get.f, octet_Get.j0, c1, c2, c3, c4, c5, e1, if_true, if_false, decide_false, Bool.false_eq_true]⟩
  · refine ⟨(numB ((l.take (a + n).toNat).drop a.toNat), a + n, 0), ?_⟩
    simp only [octet_Get.f, octet_Get.j0, octet_read.f, c1, c2, c3, c4, c5, e1, e2, if_false, decide_false, Bool.false_eq_true]
    rw [if_pos (by omega), if_pos (by omega), if_pos (by omega), if_pos (by rw [List.length_drop, List.length_take]; omega), if_pos (all_mid hb _ _)]
    rfl

theorem OctetReads : caravellaw01_OctetReads.Pure := by
  intro l0 a1 a2 hm hl hw w1 w2
  have hb := all_bytes hw
  have hL : l0.length ≤ 140737488355328 := by omega
  obtain ⟨g, hg⟩ := get_some l0 a1 a2 hL hb
  have hg2 := hg
  rw [get_same] at hg2
  have ht : (l0 ++ [90]).take ((l0.length : Int)).toNat = l0 := by rw [Int.toNat_natCast]; simp
  have hv : octet_Var.f l0 a1 = some (varF l0 a1) := by unfold octet_Var.f; rw [if_pos hL, if_pos hb]
  have hr : caravelref01_Read.f l0 a1 = some (varF l0 a1) := by unfold caravelref01_Read.f; rw [if_pos hL, if_pos hb]
  refine ⟨1, ?_⟩
  simp only [caravellaw01_OctetReads.f, Option.bind_some, List.nil_append, ht, hv, hr, hg, hg2]
  rw [if_pos (by simp; omega), if_pos (by omega), if_pos (by omega), if_pos (by simp; omega), if_pos trivial, if_pos trivial, if_pos trivial, if_pos trivial, if_pos trivial, if_pos trivial]
  have hs : (strOfNums l0).size = l0.length := by simp [strOfNums, ByteArray.size]
  have hq : (strOfNums (l0 ++ [90])).toList = ((strOfNums l0) ++ (⟨#[90]⟩ : ByteArray)).toList := by
    congr 1
    apply ByteArray.ext
    simp [strOfNums, ByteArray.data_append]
  rw [if_pos (by rw [hs]; omega), if_pos hq]
  rfl
#print axioms OctetReads
end Go.Proofs.YtpilpgdlgkndmaaDoor.Pure
