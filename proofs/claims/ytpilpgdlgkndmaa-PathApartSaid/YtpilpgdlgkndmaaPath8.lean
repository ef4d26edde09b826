/- PathApart: the law's walk. -/
import Derived.Test.YtpilpgdlgkndmaaPath7
set_option linter.unusedVariables false
set_option linter.unusedSimpArgs false
namespace Go.Proofs.Ytpilpgdlgkndmaa.Pm
open Go.RowKit Go.Maps
set_option maxRecDepth 100000 in
set_option maxHeartbeats 3200000 in
theorem apart_walk (a b c : Int) (x y z : Int) (ha : Go.bits .and .i64 a 65535 = x) (hb : Go.bits .and .i64 b 65535 = y) (hc : Go.bits .and .i64 c 65535 = z) (x0 : 0 ≤ x) (x1 : x ≤ 65535) (y0 : 0 ≤ y) (y1 : y ≤ 65535) (z0 : 0 ≤ z) (z1 : z ≤ 65535) (w : World) :
    Calls Try.prog 8 #[.int .i64 a, .int .i64 b, .int .i64 c] w fun e w' => e = .returned (.bool true) ∧ Below w.heap.size w w' := by
  go_enter Try.func8, Try.ntmps8
  go_wp2_with fail
  refine (new_ok _).mono ?_
  rintro e W1 ⟨p, rfl, hp, hP, hO, hB⟩
  have HP := Aside0.mk hP; have HO := Aside0.mk hO; have HB := Aside0.mk hB
  clear hP hO hB
  go_wp2_with fail
  refine (may_valid HP.out 0 key0 _ (d1_0 _) HO.out.c0).mono ?_
  rintro e W2 ⟨rfl, j, hw⟩
  have HP2 := Aside0.mk (show Pth W2 p w.heap.size 1 (D1 (w.heap.size + 1)) by rw [hw]; exact HP.out.drewN j)
  have HO2 := Aside0.mk (show One W2 (w.heap.size + 1) true 0 0 by rw [hw]; exact HO.out.drewN j)
  have HB2 := Aside0.mk (show Below w.heap.size w W2 by rw [hw]; exact ⟨HB.out.os, HB.out.tape, HB.out.output, HB.out.size, HB.out.block⟩)
  clear hw HP HO HB
  go_wp2_with fail
  refine (came_new HP2.out 1 key1 (d1_1 _) (by decide) 1 (by decide) (fun W hW => hW.len Try.underlying92 _) x x0 (by omega)).mono ?_
  rintro e W3 ⟨rfl, hP3, hO3, hs3, hk3, hb3⟩
  have HP3 := Aside0.mk (show Pth W3 p w.heap.size 2 (D2 (w.heap.size + 1) W2.heap.size) from hP3)
  have HO3 := Aside0.mk hO3
  have HG3 := Aside0.mk (HO2.out.of_block (hk3 _ HO2.out.lt (HP2.out.ne_map HO2.out)))
  have HN3 := Aside0.mk HO2.out.lt
  have HB3 := Aside0.mk (HB2.out.trans hb3)
  clear hP3 hO3 hs3 hk3 hb3 HP2 HO2 HB2
  go_wp2_with fail
  refine (came_new HP3.out 2 key2 (d2_2 _ _) (by decide) 2 (by decide) (fun W hW => hW.len Try.underlying92 _) z z0 (by omega)).mono ?_
  rintro e W4 ⟨rfl, hP4, hO4, hs4, hk4, hb4⟩
  have HS := Aside0.mk (to_three HP3.out HG3.out HO3.out HN3.out (Nat.le_succ _) (HB3.out.trans hb4) hP4 hO4 hk4)
  clear hP4 hO4 hs4 hk4 hb4
  go_wp2_with fail
  have m1 : max 0 (3 * x - 0) = 3 * x := by omega
  have m2 : max 0 (3 * z - 0) = 3 * z := by omega
  refine (may_some HS.out.pth 1 key1 _ (d3_1 _ _ _) x 0 _ HS.out.o1.c0 HS.out.o1.c1 HS.out.o1.c2 x0 (by omega) (by omega) (by omega) rfl).mono ?_
  rw [m1]
  rintro e W5 ⟨rfl, j5, hw⟩
  have HS5 := Aside0.mk (show S3 w W5 p w.heap.size (w.heap.size + 1) W2.heap.size W3.heap.size x 0 z false by rw [hw]; exact HS.out.drewN j5)
  clear hw
  go_wp2_with fail
  refine (may_some HS5.out.pth 2 key2 _ (d3_2 _ _ _) z 0 _ HS5.out.o2.c0 HS5.out.o2.c1 HS5.out.o2.c2 z0 (by omega) (by omega) (by omega) rfl).mono ?_
  rw [m2]
  rintro e W6 ⟨rfl, j6, hw⟩
  have HS6 := Aside0.mk (show S3 w W6 p w.heap.size (w.heap.size + 1) W2.heap.size W3.heap.size x 0 z false by rw [hw]; exact HS5.out.drewN j6)
  clear hw
  go_wp2_with fail
  refine (may_miss HS6.out.pth 3 key3 (d3_3 _ _ _)).mono ?_
  rintro e W7 ⟨rfl, j7, hw⟩
  have HS7 := Aside0.mk (show S3 w W7 p w.heap.size (w.heap.size + 1) W2.heap.size W3.heap.size x 0 z false by rw [hw]; exact HS6.out.drewN j7)
  clear hw
  go_wp2_with fail
  by_cases hyx : y ≤ 3 * x
  · refine (sent_ok HS7.out.pth 1 key1 _ (d3_1 _ _ _) x _ y HS7.out.o1.c0 HS7.out.o1.c1 HS7.out.o1.c2 HS7.out.o1.z2 x0 (by omega) rfl y0 y1 (by omega)).mono ?_
    rintro e W8 ⟨rfl, j8, hw⟩
    have HS8 := Aside0.mk (show S3 w W8 p w.heap.size (w.heap.size + 1) W2.heap.size W3.heap.size x y z false by rw [hw]; exact (HS7.out.drewN j8).sent y)
    clear hw
    go_wp2_with fail
    have m3 : max 0 (3 * x - y) = 3 * x - y := by omega
    refine (may_some HS8.out.pth 2 key2 _ (d3_2 _ _ _) z 0 _ HS8.out.o2.c0 HS8.out.o2.c1 HS8.out.o2.c2 z0 (by omega) (by omega) (by omega) rfl).mono ?_
    rw [m2]
    rintro e W9 ⟨rfl, j9, hw⟩
    have HS9 := Aside0.mk (show S3 w W9 p w.heap.size (w.heap.size + 1) W2.heap.size W3.heap.size x y z false by rw [hw]; exact HS8.out.drewN j9)
    clear hw
    go_wp2_with fail
    refine (may_valid HS9.out.pth 0 key0 _ (d3_0 _ _ _) HS9.out.o0.c0).mono ?_
    rintro e W10 ⟨rfl, j10, hw⟩
    have HS10 := Aside0.mk (show S3 w W10 p w.heap.size (w.heap.size + 1) W2.heap.size W3.heap.size x y z false by rw [hw]; exact HS9.out.drewN j10)
    clear hw
    go_wp2_with fail
    refine (may_some HS10.out.pth 1 key1 _ (d3_1 _ _ _) x y _ HS10.out.o1.c0 HS10.out.o1.c1 HS10.out.o1.c2 x0 (by omega) (by omega) (by omega) rfl).mono ?_
    rw [m3]
    rintro e W11 ⟨rfl, j11, hw⟩
    have HS11 := Aside0.mk (show S3 w W11 p w.heap.size (w.heap.size + 1) W2.heap.size W3.heap.size x y z false by rw [hw]; exact HS10.out.drewN j11)
    clear hw
    go_wp2_with fail
    refine (valid_hit HS11.out.pth 2 key2 _ (d3_2 _ _ _) _ HS11.out.o2.c0 HS11.out.o2.z0).mono ?_
    rintro e W12 ⟨rfl, hw⟩
    have HS12 := Aside0.mk (show S3 w W12 p w.heap.size (w.heap.size + 1) W2.heap.size W3.heap.size x y z true by rw [hw]; exact HS11.out.valid)
    clear hw
    go_wp2_with fail
    refine (may_valid HS12.out.pth 2 key2 _ (d3_2 _ _ _) HS12.out.o2.c0).mono ?_
    rintro e W13 ⟨rfl, j13, hw⟩
    have HS13 := Aside0.mk (show S3 w W13 p w.heap.size (w.heap.size + 1) W2.heap.size W3.heap.size x y z true by rw [hw]; exact HS12.out.drewN j13)
    clear hw
    by_cases hx0 : x = 0
    · have hx00 : decide (x = 0) = true := decide_eq_true hx0
      go_wp2_with fail
      refine (valid_miss HS13.out.pth 9 key9 (d3_9 _ _ _)).mono ?_
      rintro e W14 ⟨rfl, hw⟩
      have HB := HS13.out.bl
      rw [← hw] at HB
      clear hw
      go_wp2_with fail
      go_ret
      exact ⟨rfl, HB⟩
    · have hx00 : decide (x = 0) = false := decide_eq_false hx0
      go_wp2_with fail
      refine (may_some HS13.out.pth 1 key1 _ (d3_1 _ _ _) x y _ HS13.out.o1.c0 HS13.out.o1.c1 HS13.out.o1.c2 x0 (by omega) (by omega) (by omega) rfl).mono ?_
      rw [m3]
      rintro e W14 ⟨rfl, j14, hw⟩
      have HS14 := Aside0.mk (show S3 w W14 p w.heap.size (w.heap.size + 1) W2.heap.size W3.heap.size x y z true by rw [hw]; exact HS13.out.drewN j14)
      clear hw
      go_wp2_with fail
      refine (valid_miss HS14.out.pth 9 key9 (d3_9 _ _ _)).mono ?_
      rintro e W15 ⟨rfl, hw⟩
      have HB := HS14.out.bl
      rw [← hw] at HB
      clear hw
      go_wp2_with fail
      go_ret
      exact ⟨rfl, HB⟩
  · refine (sent_flow HS7.out.pth 1 key1 _ (d3_1 _ _ _) x 0 _ y HS7.out.o1.c0 HS7.out.o1.c1 HS7.out.o1.c2 x0 (by omega) (by omega) (by omega) rfl y0 (by omega) (by omega)).mono ?_
    rintro e W8 ⟨rfl, j8, hw⟩
    have HS8 := Aside0.mk (show S3 w W8 p w.heap.size (w.heap.size + 1) W2.heap.size W3.heap.size x 0 z false by rw [hw]; exact HS7.out.drewN j8)
    clear hw
    go_wp2_with fail
    refine (may_some HS8.out.pth 2 key2 _ (d3_2 _ _ _) z 0 _ HS8.out.o2.c0 HS8.out.o2.c1 HS8.out.o2.c2 z0 (by omega) (by omega) (by omega) rfl).mono ?_
    rw [m2]
    rintro e W9 ⟨rfl, j9, hw⟩
    have HS9 := Aside0.mk (show S3 w W9 p w.heap.size (w.heap.size + 1) W2.heap.size W3.heap.size x 0 z false by rw [hw]; exact HS8.out.drewN j9)
    clear hw
    go_wp2_with fail
    refine (may_valid HS9.out.pth 0 key0 _ (d3_0 _ _ _) HS9.out.o0.c0).mono ?_
    rintro e W10 ⟨rfl, j10, hw⟩
    have HS10 := Aside0.mk (show S3 w W10 p w.heap.size (w.heap.size + 1) W2.heap.size W3.heap.size x 0 z false by rw [hw]; exact HS9.out.drewN j10)
    clear hw
    go_wp2_with fail
    refine (may_some HS10.out.pth 1 key1 _ (d3_1 _ _ _) x 0 _ HS10.out.o1.c0 HS10.out.o1.c1 HS10.out.o1.c2 x0 (by omega) (by omega) (by omega) rfl).mono ?_
    rw [m1]
    rintro e W11 ⟨rfl, j11, hw⟩
    have HS11 := Aside0.mk (show S3 w W11 p w.heap.size (w.heap.size + 1) W2.heap.size W3.heap.size x 0 z false by rw [hw]; exact HS10.out.drewN j11)
    clear hw
    go_wp2_with fail
    refine (valid_hit HS11.out.pth 2 key2 _ (d3_2 _ _ _) _ HS11.out.o2.c0 HS11.out.o2.z0).mono ?_
    rintro e W12 ⟨rfl, hw⟩
    have HS12 := Aside0.mk (show S3 w W12 p w.heap.size (w.heap.size + 1) W2.heap.size W3.heap.size x 0 z true by rw [hw]; exact HS11.out.valid)
    clear hw
    go_wp2_with fail
    refine (may_valid HS12.out.pth 2 key2 _ (d3_2 _ _ _) HS12.out.o2.c0).mono ?_
    rintro e W13 ⟨rfl, j13, hw⟩
    have HS13 := Aside0.mk (show S3 w W13 p w.heap.size (w.heap.size + 1) W2.heap.size W3.heap.size x 0 z true by rw [hw]; exact HS12.out.drewN j13)
    clear hw
    by_cases hx0 : x = 0
    · have hx00 : decide (x = 0) = true := decide_eq_true hx0
      go_wp2_with fail
      refine (valid_miss HS13.out.pth 9 key9 (d3_9 _ _ _)).mono ?_
      rintro e W14 ⟨rfl, hw⟩
      have HB := HS13.out.bl
      rw [← hw] at HB
      clear hw
      go_wp2_with fail
      go_ret
      exact ⟨rfl, HB⟩
    · have hx00 : decide (x = 0) = false := decide_eq_false hx0
      go_wp2_with fail
      refine (may_some HS13.out.pth 1 key1 _ (d3_1 _ _ _) x 0 _ HS13.out.o1.c0 HS13.out.o1.c1 HS13.out.o1.c2 x0 (by omega) (by omega) (by omega) rfl).mono ?_
      rw [m1]
      rintro e W14 ⟨rfl, j14, hw⟩
      have HS14 := Aside0.mk (show S3 w W14 p w.heap.size (w.heap.size + 1) W2.heap.size W3.heap.size x 0 z true by rw [hw]; exact HS13.out.drewN j14)
      clear hw
      go_wp2_with fail
      refine (valid_miss HS14.out.pth 9 key9 (d3_9 _ _ _)).mono ?_
      rintro e W15 ⟨rfl, hw⟩
      have HB := HS14.out.bl
      rw [← hw] at HB
      clear hw
      go_wp2_with fail
      go_ret
      exact ⟨rfl, HB⟩
end Go.Proofs.Ytpilpgdlgkndmaa.Pm
namespace Go.Proofs.Ytpilpgdlgkndmaa.Pm
open Go.RowKit Go.Maps
theorem wf64 {a : Int} (h : (Lit.int .i64 a).wf = true) : -9223372036854775808 ≤ a ∧ a ≤ 9223372036854775807 := by
  simp only [Lit.wf, Bool.and_eq_true, decide_eq_true_eq] at h
  exact h
theorem apart_row (a b c : Int) (ha : (Lit.int .i64 a).wf = true) (hb : (Lit.int .i64 b).wf = true) (hc : (Lit.int .i64 c).wf = true) (w : World) :
    Calls Try.prog 8 #[.int .i64 a, .int .i64 b, .int .i64 c] w fun e w' => e = .returned (.bool true) ∧ Below w.heap.size w w' := by
  have h1 := wf64 ha
  have h2 := wf64 hb
  have h3 := wf64 hc
  exact apart_walk a b c _ _ _ (low16 a h1.1 h1.2) (low16 b h2.1 h2.2) (low16 c h3.1 h3.2) (by omega) (by omega) (by omega) (by omega) (by omega) (by omega) w
end Go.Proofs.Ytpilpgdlgkndmaa.Pm
