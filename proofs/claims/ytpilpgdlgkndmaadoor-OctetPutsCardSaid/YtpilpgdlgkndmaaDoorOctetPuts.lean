/- OctetPuts: the law's walk over the callees' contracts; no condition but the reach of its argument. -/
import Derived.Test.YtpilpgdlgkndmaaDoorOctPutsM
set_option linter.unusedVariables false
set_option linter.unusedSimpArgs false
namespace Go.Proofs.YtpilpgdlgkndmaaDoor.Puts
open Go.RowKit Go.Proofs.YtpilpgdlgkndmaaDoor.QOct Go.Proofs.YtpilpgdlgkndmaaDoorW.PrintWords Go.Proofs.YtpilpgdlgkndmaaDoorW.PrintLast Go.Proofs.YtpilpgdlgkndmaaDoorW.PrintMore
attribute [local go_sem] max2_int min2_int max_two min_two max_three min_three max_four min_four
theorem len90 (l0 : List Int) : (l0 ++ [90]).length = l0.length + 1 := by simp
structure Pre (w W0 : World) (A0 Ai : Option Addr) (l0 : List Int) (ci : Nat) : Prop where
  hb : Below w.heap.size w W0
  hi : Kd.R (Kd.int .u8) 5 W0 w.heap.size (fun _ => True) (.slice Ai (l0.length + 1) ci) (l0 ++ [90])
  hr : Kd.C (Kd.int .u8) W0 A0 l0.length l0
  hG : GL W0
def At (W0 W : World) : Prop := Below W0.heap.size W0 W
theorem own_C {W : World} {b : Nat} {A : Option Addr} {c : Nat} {l0 : List Int} (h : Kd.R (Kd.int .u8) 5 W b (fun _ => True) (.slice A (l0.length + 1) c) (l0 ++ [90])) : l0.length ≤ c ∧ Kd.C (Kd.int .u8) W A l0.length l0 := by
  obtain ⟨h1, h2, h3⟩ := Kd.R_reads' h
  have h4 := Kd.C_take (m := l0.length) h3 (by simp)
  simp at h4 h2
  exact ⟨by omega, h4⟩
/-- Two answers and what is wanted, made one behind the other: what 'behind' asks. -/
theorem three {W0 Wa Wb Wc Wd : World} {u : Value} {Ay At : Option Addr} {ny cy nt ct : Nat} {x y t : List Int} (ha : Below W0.heap.size W0 Wa)
    (hx : Kd.R (Kd.int .u8) 5 Wb Wa.heap.size (fun _ => True) u x) (hb1 : Below Wa.heap.size Wa Wb) (hy : Kd.R (Kd.int .u8) 5 Wc Wb.heap.size (fun _ => True) (.slice Ay ny cy) y) (hb2 : Below Wb.heap.size Wb Wc)
    (ht : Kd.R (Kd.int .u8) 5 Wd Wc.heap.size (fun _ => True) (.slice At nt ct) t) (hb3 : Below Wc.heap.size Wc Wd) :
    Below W0.heap.size W0 Wd ∧ Kd.R (Kd.int .u8) 5 Wd W0.heap.size (fun k => Wa.heap.size ≤ k ∧ k < Wb.heap.size) u x ∧
    (∀ W', Kept Wd W' (fun k => Wa.heap.size ≤ k ∧ k < Wb.heap.size) → Kd.C (Kd.int .u8) W' Ay ny y) ∧ y.length ≤ cy ∧ (∀ W', Kept Wd W' (fun k => Wa.heap.size ≤ k ∧ k < Wb.heap.size) → Kd.C (Kd.int .u8) W' At nt t) ∧ t.length ≤ ct := by
  have h1 := below_size hb1
  have h2 := below_size hb2
  have h3 := below_size hb3
  have ey := Kd.R_reads' hy
  have et := Kd.R_reads' ht
  refine ⟨below_step (below_step (below_step ha hb1) hb2) hb3, ?_, ?_, by omega, ?_, by omega⟩
  · exact Kd.R_lower (Kd.R_below (Kd.R_below (Kd.R_mono (Kd.R_bound hx) (fun k hk => ⟨hk.2.1, hk.2.2.1⟩)) hb2) hb3) (below_size ha)
  · exact Kd.C_kept_own (Kd.R_below (Kd.R_mono (Kd.R_bound hy) (fun k hk => hk.2.1)) hb3) (fun k hk hs => by omega)
  · exact Kd.C_kept_own (Kd.R_mono (Kd.R_bound ht) (fun k hk => hk.2.1)) (fun k hk hs => by omega)
theorem drew3 {W0 Wa Wb Wd : World} {u : Value} {Ay At : Option Addr} {ny cy nt ct : Nat} {x y t : List Int}
    (h : Below W0.heap.size W0 Wd ∧ Kd.R (Kd.int .u8) 5 Wd W0.heap.size (fun k => Wa.heap.size ≤ k ∧ k < Wb.heap.size) u x ∧
    (∀ W', Kept Wd W' (fun k => Wa.heap.size ≤ k ∧ k < Wb.heap.size) → Kd.C (Kd.int .u8) W' Ay ny y) ∧ y.length ≤ cy ∧ (∀ W', Kept Wd W' (fun k => Wa.heap.size ≤ k ∧ k < Wb.heap.size) → Kd.C (Kd.int .u8) W' At nt t) ∧ t.length ≤ ct) (m : Nat) :
    Below W0.heap.size W0 (Wd.drewN m) ∧ Kd.R (Kd.int .u8) 5 (Wd.drewN m) W0.heap.size (fun k => Wa.heap.size ≤ k ∧ k < Wb.heap.size) u x ∧
    (∀ W', Kept (Wd.drewN m) W' (fun k => Wa.heap.size ≤ k ∧ k < Wb.heap.size) → Kd.C (Kd.int .u8) W' Ay ny y) ∧ y.length ≤ cy ∧ (∀ W', Kept (Wd.drewN m) W' (fun k => Wa.heap.size ≤ k ∧ k < Wb.heap.size) → Kd.C (Kd.int .u8) W' At nt t) ∧ t.length ≤ ct :=
  ⟨pw_below_drewN h.1 m, Kd.R_drewN h.2.1 m, fun W' hk => h.2.2.1 W' hk, h.2.2.2.1, fun W' hk => h.2.2.2.2.1 W' hk, h.2.2.2.2.2⟩
theorem in_C {W : World} {b : Nat} {A : Option Addr} {c : Nat} {l0 : List Int} (h : Kd.R (Kd.int .u8) 5 W b (fun _ => True) (.slice A (l0.length + 1) c) (l0 ++ [90])) : Kd.C (Kd.int .u8) W A (l0.length + 1) (l0 ++ [90]) := by
  obtain ⟨h1, h2, h3⟩ := Kd.R_reads' h
  rw [len90] at h3
  exact h3
theorem str_room (l0 : List Int) (h : l0.length + 2 ≤ 140737488355327) : (strOfNums l0).size + 1 ≤ 9223372036854775807 := by
  have hs : (strOfNums l0).size = l0.length := by simp [strOfNums, ByteArray.size]
  omega
theorem str_same (l0 : List Int) : (strOfNums (l0 ++ [90])).toList = ((strOfNums l0) ++ (⟨#[90]⟩ : ByteArray)).toList := by
  congr 1
  apply ByteArray.ext
  simp [strOfNums, ByteArray.data_append]
/-- What came, at any world that 'behind' may leave. -/
theorem came {W0 Wa Wb Wd : World} {A0 : Option Addr} {n : Nat} {l0 : List Int} (hr : Kd.C (Kd.int .u8) W0 A0 n l0) (ha : Below W0.heap.size W0 Wa) (hd : Below W0.heap.size W0 Wd) :
    ∀ W', Kept Wd W' (fun k => Wa.heap.size ≤ k ∧ k < Wb.heap.size) → Kd.C (Kd.int .u8) W' A0 n l0 :=
  Kd.C_kept_came (Kd.heap_int .u8) hr hd (fun k hk => Nat.le_trans (below_size ha) hk.1)
set_option maxHeartbeats 8000000 in
set_option maxRecDepth 100000 in
theorem puts_calls (k : Nat) (A0 : Option Addr) (c0 : Nat) (l0 : List Int) (v n : Int) (w : World) (hr0 : Kd.C (Kd.int .u8) w A0 l0.length l0) (hc0 : l0.length ≤ c0) (hG : GL w) (hl : l0.length + 2 ≤ 140737488355327)
    (x1 t1 z1 : List Int) (e1 b1 : Int) (p1 : octet_PutVar.f k l0 v = some (x1, e1)) (q1 : caravelref01_Var.f k v = some (t1, b1)) (r1 : caravellaw01_behind.f k x1 x1 e1 l0 t1 b1 = some (true, z1))
    (x2 t2 z2 : List Int) (e2 b2 : Int) (p2 : octet_PutWide.f k l0 v n = some (x2, e2)) (q2 : caravelref01_Wide.f k v n = some (t2, b2)) (r2 : caravellaw01_behind.f k x2 x2 e2 l0 t2 b2 = some (true, z2))
    (x3 t3 z3 : List Int) (e3 b3 : Int) (p3 : octet_Put.f k l0 (IntKind.u64.wrap v) n = some (x3, e3)) (hn : 1 ≤ n ∧ n ≤ 8) (q3 : caravelref01_Bytes.f k (IntKind.u64.wrap v) n = some t3) (r3 : caravellaw01_behind.f k x3 x3 e3 l0 t3 0 = some (true, z3))
    (sa sb : Int) (p4 : octet_Size.f v = some (sa, sb)) (q4 : caravelref01_Size.f k v = some (sa, sb)) :
    Calls Tryd.prog 5 #[.slice A0 l0.length c0, .int .i64 v, .int .i64 n] w fun e w' => e = .returned (.bool true) ∧ Below w.heap.size w w' := by
  have HR0 := Aside0.mk hr0
  have HC0 := Aside0.mk hc0
  have HL := Aside0.mk hG
  have HN := Aside0.mk hl
  clear hr0 hc0 hG hl
  have P1 := Aside0.mk p1
  have Q1 := Aside0.mk q1
  have R1 := Aside0.mk r1
  clear p1 q1 r1
  have P2 := Aside0.mk p2
  have Q2 := Aside0.mk q2
  have R2 := Aside0.mk r2
  have P3 := Aside0.mk p3
  have Q3 := Aside0.mk q3
  have R3 := Aside0.mk r3
  have P4 := Aside0.mk p4
  have Q4 := Aside0.mk q4
  clear p2 q2 r2 p3 q3 r3 p4 q4
  have HB := Aside0.mk (Below.refl w.heap.size w)
  go_enter Tryd.func5, Tryd.ntmps5
  go_wp2_with (first
    | ((with_reducible refine gate_dst (N := 20) rfl ?_); refine Kd.R_lit (Kd.int .u8) _ 5 ?hg (N := 20) ?hd (xs := ([] : List Int)) (inner := []) (ok := fun _ => True) (okp := fun _ => True) ?hr ?hp (fun _ hk => hk) trivial (Below.refl _ _) (Nat.le_refl _) (by simp) ?_; (case hd => rfl); (case hg => rfl); (case hr => first | (go_simp; done) | (go_simp; rfl)); (case hp => exact (Reps.none _ _)); intro v1 w1 ho hb _ _; have H1 := Aside0.mk ho; have HB1 := Aside0.mk hb; clear ho hb HB)
    | ((with_reducible refine gate_builtin (b := .append) (xs := #[.tmp 20, .tmp 21]) rfl ?_); at_builtin; refine Kd.R_append_rows (Kd.int .u8) (w0 := w) w.heap.size rfl (.tmp 20) (.tmp 21) 22 5 (.int .u8 0) 1 rfl Tryd.underlying22 info5 rfl (by decide) (by omega) v1 [] l0 _ _ _ (fun _ => True) (fun _ => False) rfl rfl H1.out (Kd.C_below HR0.out HB1.out) (fun _ _ h => h) (fun _ h => h.elim) (fun _ _ => trivial) HB1.out HB1.out.size (by have := HN.out; simp; omega) ?_; intro v2 w2 ho hb _ _; have H2 := Aside0.mk ho; have HB2 := Aside0.mk hb; clear ho hb HB1 H1)
    | ((with_reducible refine gate_builtin (b := .append) (xs := #[.tmp 22, .tmp 23]) rfl ?_); at_builtin; refine Kd.R_append (Kd.int .u8) (w0 := w) w.heap.size rfl (.tmp 22) (.tmp 23) 22 5 (.int .u8 0) 1 rfl Tryd.underlying22 info5 rfl (by decide) (by omega) v2 ([] ++ l0) 90 [.int .u8 90] (fun _ => True) (fun _ => False) rfl rfl rfl (fun _ hk => hk.elim) (fun _ _ => trivial) H2.out HB2.out HB2.out.size (by have := HN.out; simp; omega) ?_; intro v3 w3 ho hb _ _; obtain ⟨Ai, ci, ei⟩ := Kd.R_slice (show Kd.R (Kd.int .u8) 5 w3 w.heap.size (fun _ => True) v3 (l0 ++ [90]) from ho); rw [len90] at ei; subst ei; have H3 := Aside0.mk (show Kd.R (Kd.int .u8) 5 w3 w.heap.size (fun _ => True) (.slice Ai (l0.length + 1) ci) (l0 ++ [90]) from ho); obtain ⟨i0, hi0, _, hsz, _⟩ := info_parts info5; have hcut := cut_to (P := Tryd.prog) 22 5 .i64 Tryd.underlying22 hi0 Ai (l0.length + 1) ci (l0.length : Int) (by omega) (by omega) (Kd.R_reads' H3.out).2.1; rw [Int.toNat_natCast] at hcut; clear hi0 hsz; have HP := Aside0.mk (Pre.mk hb H3.out (Kd.C_below HR0.out hb) (GL.of_below HL.out hb)); clear ho hb HB2 H2 H3))
  have A3 := Aside0.mk (Below.refl w3.heap.size w3)
  refine (octet_PutVar.calls k Ai ci l0 v x1 e1 _ (Kd.C_below (own_C HP.out.hi).2 A3.out) (own_C HP.out.hi).1 (GL.of_below HP.out.hG A3.out) P1.out).mono ?_
  rintro e W4a ⟨u4a, rfl, ho, hb⟩
  have X4 := Aside0.mk ho
  have B4a := Aside0.mk hb
  have A4a := Aside0.mk (below_step A3.out hb)
  clear ho hb
  go_wp2_with fail
  refine (octet_PutVar.calls k Ai ci l0 v x1 e1 _ (Kd.C_below (own_C HP.out.hi).2 A4a.out) (own_C HP.out.hi).1 (GL.of_below HP.out.hG A4a.out) P1.out).mono ?_
  rintro e W4b ⟨u4b, rfl, ho, hb⟩
  obtain ⟨Ay4, cy4, ey⟩ := Kd.R_slice ho
  subst ey
  have Y4 := Aside0.mk ho
  have B4b := Aside0.mk hb
  clear ho hb
  go_wp2_with fail
  refine (caravelref01_Var.calls k v t1 b1 _ Q1.out).mono ?_
  rintro e W4c ⟨u4c, rfl, ho, hb⟩
  obtain ⟨At4, ct4, et⟩ := Kd.R_slice ho
  subst et
  have T4 := Aside0.mk (three A3.out X4.out B4a.out Y4.out B4b.out ho hb)
  clear ho hb X4 Y4 B4a B4b A4a
  go_wp2_with fail
  refine (caravellaw01_behind.calls k _ u4a x1 Ay4 cy4 x1 e1 A0 c0 l0 At4 ct4 t1 b1 true z1 w3 _ T4.out.1 T4.out.2.1 T4.out.2.2.1 T4.out.2.2.2.1 (came HP.out.hr A3.out T4.out.1) HC0.out T4.out.2.2.2.2.1 T4.out.2.2.2.2.2 R1.out).mono ?_
  rintro e W4d ⟨rfl, _, hb, _⟩
  have A4 := Aside0.mk hb
  clear hb T4
  go_wp2_with fail
  refine (octet_PutWide.calls k Ai ci l0 v n x2 e2 _ (Kd.C_below (own_C HP.out.hi).2 A4.out) (own_C HP.out.hi).1 (GL.of_below HP.out.hG A4.out) P2.out).mono ?_
  rintro e W5a ⟨u5a, rfl, ho, hb⟩
  have X5 := Aside0.mk ho
  have B5a := Aside0.mk hb
  have A5a := Aside0.mk (below_step A4.out hb)
  clear ho hb
  go_wp2_with fail
  refine (octet_PutWide.calls k Ai ci l0 v n x2 e2 _ (Kd.C_below (own_C HP.out.hi).2 A5a.out) (own_C HP.out.hi).1 (GL.of_below HP.out.hG A5a.out) P2.out).mono ?_
  rintro e W5b ⟨u5b, rfl, ho, hb⟩
  obtain ⟨Ay5, cy5, ey⟩ := Kd.R_slice ho
  subst ey
  have Y5 := Aside0.mk ho
  have B5b := Aside0.mk hb
  clear ho hb
  go_wp2_with fail
  refine (caravelref01_Wide.calls k v n t2 b2 _ Q2.out).mono ?_
  rintro e W5c ⟨u5c, rfl, ho, hb⟩
  obtain ⟨At5, ct5, et⟩ := Kd.R_slice ho
  subst et
  have T5 := Aside0.mk (three A4.out X5.out B5a.out Y5.out B5b.out ho hb)
  clear ho hb X5 Y5 B5a B5b A5a
  go_wp2_with fail
  refine (caravellaw01_behind.calls k _ u5a x2 Ay5 cy5 x2 e2 A0 c0 l0 At5 ct5 t2 b2 true z2 w3 _ T5.out.1 T5.out.2.1 T5.out.2.2.1 T5.out.2.2.2.1 (came HP.out.hr A4.out T5.out.1) HC0.out T5.out.2.2.2.2.1 T5.out.2.2.2.2.2 R2.out).mono ?_
  rintro e W5d ⟨rfl, _, hb, _⟩
  have A5 := Aside0.mk hb
  clear hb T5
  go_wp2_with fail
  refine (octet_Put.calls k Ai ci l0 (IntKind.u64.wrap v) n x3 e3 _ (Kd.C_below (own_C HP.out.hi).2 A5.out) (own_C HP.out.hi).1 P3.out).mono ?_
  rintro e W6a ⟨u6a, rfl, ho, hb⟩
  have X6 := Aside0.mk ho
  have B6a := Aside0.mk hb
  have A6a := Aside0.mk (below_step A5.out hb)
  clear ho hb
  go_wp2_with fail
  refine (octet_Put.calls k Ai ci l0 (IntKind.u64.wrap v) n x3 e3 _ (Kd.C_below (own_C HP.out.hi).2 A6a.out) (own_C HP.out.hi).1 P3.out).mono ?_
  rintro e W6b ⟨u6b, rfl, ho, hb⟩
  obtain ⟨Ay6, cy6, ey⟩ := Kd.R_slice ho
  subst ey
  have Y6 := Aside0.mk ho
  have B6b := Aside0.mk hb
  clear ho hb
  go_wp2_with fail
  refine (caravelref01_Bytes.calls k (IntKind.u64.wrap v) n t3 _ Q3.out).mono ?_
  rintro e W6c ⟨u6c, rfl, ho, hb⟩
  obtain ⟨At6, ct6, et⟩ := Kd.R_slice ho
  subst et
  have T6 := Aside0.mk (three A5.out X6.out B6a.out Y6.out B6b.out ho hb)
  clear ho hb X6 Y6 B6a B6b A6a
  go_wp2_with fail
  refine (octet_Size.calls v sa sb _ (GL.of_below HP.out.hG T6.out.1) P4.out).mono ?_
  rintro e w' ⟨rfl, ⟨n1, rfl⟩⟩
  go_wp2_with fail
  refine (caravelref01_Size.calls k v sa sb _ Q4.out).mono ?_
  rintro e w' ⟨rfl, ⟨n2, rfl⟩⟩
  go_wp2_with fail
  have T6 := Aside0.mk (drew3 T6.out (n1 + n2))
  refine (caravellaw01_behind.calls k _ u6a x3 Ay6 cy6 x3 e3 A0 c0 l0 At6 ct6 t3 0 true z3 w3 _ T6.out.1 T6.out.2.1 T6.out.2.2.1 T6.out.2.2.2.1 (came HP.out.hr A5.out T6.out.1) HC0.out T6.out.2.2.2.2.1 T6.out.2.2.2.2.2 R3.out).mono ?_
  rintro e W6d ⟨rfl, _, hb, _⟩
  have A6 := Aside0.mk hb
  clear hb T6
  have hcv1 := Kd.C_string (P := Tryd.prog) (A := Ai) (c := ci) Tryd.underlying22 Tryd.underlying5 Tryd.underlying9 (in_C (Kd.R_below HP.out.hi A6.out))
  have hcv2 := Kd.C_string (P := Tryd.prog) (A := A0) (c := c0) Tryd.underlying22 Tryd.underlying5 Tryd.underlying9 (Kd.C_below HP.out.hr A6.out)
  have c20 := str_room l0 HN.out
  have c20b0 := eq_true c20
  have c20b1 : decide ((strOfNums l0).size + 1 ≤ 9223372036854775807) = true := decide_eq_true c20
  have c20b2 : (9223372036854775807 < (strOfNums l0).size + 1) = False := eq_false (Nat.not_lt.2 c20)
  have c21 := str_same l0
  have c21b0 : ((strOfNums (l0 ++ [90])).toList == ((strOfNums l0) ++ (⟨#[90]⟩ : ByteArray)).toList) = true := beq_iff_eq.mpr c21
  have c21b1 : ((strOfNums (l0 ++ [90])).toList != ((strOfNums l0) ++ (⟨#[90]⟩ : ByteArray)).toList) = false := bne_eq_false_iff_eq.mpr c21
  clear c20 c21
  go_wp2_with (go_at_call 12; (with_reducible refine (caravellaw01_names.calls true _ rfl).mono ?_); rintro e w' ⟨rfl, ⟨nd, rfl⟩⟩)
  go_ret
  exact ⟨rfl, pw_below_drewN (below_step HP.out.hb A6.out) _⟩
set_option maxHeartbeats 8000000 in
set_option maxRecDepth 100000 in
theorem puts_calls1 (k : Nat) (A0 : Option Addr) (c0 : Nat) (l0 : List Int) (v n : Int) (w : World) (hr0 : Kd.C (Kd.int .u8) w A0 l0.length l0) (hc0 : l0.length ≤ c0) (hG : GL w) (hl : l0.length + 2 ≤ 140737488355327)
    (x1 t1 z1 : List Int) (e1 b1 : Int) (p1 : octet_PutVar.f k l0 v = some (x1, e1)) (q1 : caravelref01_Var.f k v = some (t1, b1)) (r1 : caravellaw01_behind.f k x1 x1 e1 l0 t1 b1 = some (true, z1))
    (x2 t2 z2 : List Int) (e2 b2 : Int) (p2 : octet_PutWide.f k l0 v n = some (x2, e2)) (q2 : caravelref01_Wide.f k v n = some (t2, b2)) (r2 : caravellaw01_behind.f k x2 x2 e2 l0 t2 b2 = some (true, z2))
    (x3 z3 : List Int) (e3 b3 : Int) (p3 : octet_Put.f k l0 (IntKind.u64.wrap v) n = some (x3, e3)) (hn : n < 1) (r3 : caravellaw01_behind.f k x3 x3 e3 l0 [] 2 = some (true, z3))
    (sa sb : Int) (p4 : octet_Size.f v = some (sa, sb)) (q4 : caravelref01_Size.f k v = some (sa, sb)) :
    Calls Tryd.prog 5 #[.slice A0 l0.length c0, .int .i64 v, .int .i64 n] w fun e w' => e = .returned (.bool true) ∧ Below w.heap.size w w' := by
  have HR0 := Aside0.mk hr0
  have HC0 := Aside0.mk hc0
  have HL := Aside0.mk hG
  have HN := Aside0.mk hl
  clear hr0 hc0 hG hl
  have P1 := Aside0.mk p1
  have Q1 := Aside0.mk q1
  have R1 := Aside0.mk r1
  clear p1 q1 r1
  have P2 := Aside0.mk p2
  have Q2 := Aside0.mk q2
  have R2 := Aside0.mk r2
  have P3 := Aside0.mk p3
  have R3 := Aside0.mk r3
  have P4 := Aside0.mk p4
  have Q4 := Aside0.mk q4
  clear p2 q2 r2 p3 r3 p4 q4
  have HB := Aside0.mk (Below.refl w.heap.size w)
  go_enter Tryd.func5, Tryd.ntmps5
  go_wp2_with (first
    | ((with_reducible refine gate_dst (N := 20) rfl ?_); refine Kd.R_lit (Kd.int .u8) _ 5 ?hg (N := 20) ?hd (xs := ([] : List Int)) (inner := []) (ok := fun _ => True) (okp := fun _ => True) ?hr ?hp (fun _ hk => hk) trivial (Below.refl _ _) (Nat.le_refl _) (by simp) ?_; (case hd => rfl); (case hg => rfl); (case hr => first | (go_simp; done) | (go_simp; rfl)); (case hp => exact (Reps.none _ _)); intro v1 w1 ho hb _ _; have H1 := Aside0.mk ho; have HB1 := Aside0.mk hb; clear ho hb HB)
    | ((with_reducible refine gate_builtin (b := .append) (xs := #[.tmp 20, .tmp 21]) rfl ?_); at_builtin; refine Kd.R_append_rows (Kd.int .u8) (w0 := w) w.heap.size rfl (.tmp 20) (.tmp 21) 22 5 (.int .u8 0) 1 rfl Tryd.underlying22 info5 rfl (by decide) (by omega) v1 [] l0 _ _ _ (fun _ => True) (fun _ => False) rfl rfl H1.out (Kd.C_below HR0.out HB1.out) (fun _ _ h => h) (fun _ h => h.elim) (fun _ _ => trivial) HB1.out HB1.out.size (by have := HN.out; simp; omega) ?_; intro v2 w2 ho hb _ _; have H2 := Aside0.mk ho; have HB2 := Aside0.mk hb; clear ho hb HB1 H1)
    | ((with_reducible refine gate_builtin (b := .append) (xs := #[.tmp 22, .tmp 23]) rfl ?_); at_builtin; refine Kd.R_append (Kd.int .u8) (w0 := w) w.heap.size rfl (.tmp 22) (.tmp 23) 22 5 (.int .u8 0) 1 rfl Tryd.underlying22 info5 rfl (by decide) (by omega) v2 ([] ++ l0) 90 [.int .u8 90] (fun _ => True) (fun _ => False) rfl rfl rfl (fun _ hk => hk.elim) (fun _ _ => trivial) H2.out HB2.out HB2.out.size (by have := HN.out; simp; omega) ?_; intro v3 w3 ho hb _ _; obtain ⟨Ai, ci, ei⟩ := Kd.R_slice (show Kd.R (Kd.int .u8) 5 w3 w.heap.size (fun _ => True) v3 (l0 ++ [90]) from ho); rw [len90] at ei; subst ei; have H3 := Aside0.mk (show Kd.R (Kd.int .u8) 5 w3 w.heap.size (fun _ => True) (.slice Ai (l0.length + 1) ci) (l0 ++ [90]) from ho); obtain ⟨i0, hi0, _, hsz, _⟩ := info_parts info5; have hcut := cut_to (P := Tryd.prog) 22 5 .i64 Tryd.underlying22 hi0 Ai (l0.length + 1) ci (l0.length : Int) (by omega) (by omega) (Kd.R_reads' H3.out).2.1; rw [Int.toNat_natCast] at hcut; clear hi0 hsz; have HP := Aside0.mk (Pre.mk hb H3.out (Kd.C_below HR0.out hb) (GL.of_below HL.out hb)); clear ho hb HB2 H2 H3))
  have A3 := Aside0.mk (Below.refl w3.heap.size w3)
  refine (octet_PutVar.calls k Ai ci l0 v x1 e1 _ (Kd.C_below (own_C HP.out.hi).2 A3.out) (own_C HP.out.hi).1 (GL.of_below HP.out.hG A3.out) P1.out).mono ?_
  rintro e W4a ⟨u4a, rfl, ho, hb⟩
  have X4 := Aside0.mk ho
  have B4a := Aside0.mk hb
  have A4a := Aside0.mk (below_step A3.out hb)
  clear ho hb
  go_wp2_with fail
  refine (octet_PutVar.calls k Ai ci l0 v x1 e1 _ (Kd.C_below (own_C HP.out.hi).2 A4a.out) (own_C HP.out.hi).1 (GL.of_below HP.out.hG A4a.out) P1.out).mono ?_
  rintro e W4b ⟨u4b, rfl, ho, hb⟩
  obtain ⟨Ay4, cy4, ey⟩ := Kd.R_slice ho
  subst ey
  have Y4 := Aside0.mk ho
  have B4b := Aside0.mk hb
  clear ho hb
  go_wp2_with fail
  refine (caravelref01_Var.calls k v t1 b1 _ Q1.out).mono ?_
  rintro e W4c ⟨u4c, rfl, ho, hb⟩
  obtain ⟨At4, ct4, et⟩ := Kd.R_slice ho
  subst et
  have T4 := Aside0.mk (three A3.out X4.out B4a.out Y4.out B4b.out ho hb)
  clear ho hb X4 Y4 B4a B4b A4a
  go_wp2_with fail
  refine (caravellaw01_behind.calls k _ u4a x1 Ay4 cy4 x1 e1 A0 c0 l0 At4 ct4 t1 b1 true z1 w3 _ T4.out.1 T4.out.2.1 T4.out.2.2.1 T4.out.2.2.2.1 (came HP.out.hr A3.out T4.out.1) HC0.out T4.out.2.2.2.2.1 T4.out.2.2.2.2.2 R1.out).mono ?_
  rintro e W4d ⟨rfl, _, hb, _⟩
  have A4 := Aside0.mk hb
  clear hb T4
  go_wp2_with fail
  refine (octet_PutWide.calls k Ai ci l0 v n x2 e2 _ (Kd.C_below (own_C HP.out.hi).2 A4.out) (own_C HP.out.hi).1 (GL.of_below HP.out.hG A4.out) P2.out).mono ?_
  rintro e W5a ⟨u5a, rfl, ho, hb⟩
  have X5 := Aside0.mk ho
  have B5a := Aside0.mk hb
  have A5a := Aside0.mk (below_step A4.out hb)
  clear ho hb
  go_wp2_with fail
  refine (octet_PutWide.calls k Ai ci l0 v n x2 e2 _ (Kd.C_below (own_C HP.out.hi).2 A5a.out) (own_C HP.out.hi).1 (GL.of_below HP.out.hG A5a.out) P2.out).mono ?_
  rintro e W5b ⟨u5b, rfl, ho, hb⟩
  obtain ⟨Ay5, cy5, ey⟩ := Kd.R_slice ho
  subst ey
  have Y5 := Aside0.mk ho
  have B5b := Aside0.mk hb
  clear ho hb
  go_wp2_with fail
  refine (caravelref01_Wide.calls k v n t2 b2 _ Q2.out).mono ?_
  rintro e W5c ⟨u5c, rfl, ho, hb⟩
  obtain ⟨At5, ct5, et⟩ := Kd.R_slice ho
  subst et
  have T5 := Aside0.mk (three A4.out X5.out B5a.out Y5.out B5b.out ho hb)
  clear ho hb X5 Y5 B5a B5b A5a
  go_wp2_with fail
  refine (caravellaw01_behind.calls k _ u5a x2 Ay5 cy5 x2 e2 A0 c0 l0 At5 ct5 t2 b2 true z2 w3 _ T5.out.1 T5.out.2.1 T5.out.2.2.1 T5.out.2.2.2.1 (came HP.out.hr A4.out T5.out.1) HC0.out T5.out.2.2.2.2.1 T5.out.2.2.2.2.2 R2.out).mono ?_
  rintro e W5d ⟨rfl, _, hb, _⟩
  have A5 := Aside0.mk hb
  clear hb T5
  go_wp2_with fail
  refine (octet_Put.calls k Ai ci l0 (IntKind.u64.wrap v) n x3 e3 _ (Kd.C_below (own_C HP.out.hi).2 A5.out) (own_C HP.out.hi).1 P3.out).mono ?_
  rintro e W6a ⟨u6a, rfl, ho, hb⟩
  have X6 := Aside0.mk ho
  have B6a := Aside0.mk hb
  have A6a := Aside0.mk (below_step A5.out hb)
  clear ho hb
  go_wp2_with fail
  refine (octet_Put.calls k Ai ci l0 (IntKind.u64.wrap v) n x3 e3 _ (Kd.C_below (own_C HP.out.hi).2 A6a.out) (own_C HP.out.hi).1 P3.out).mono ?_
  rintro e W6b ⟨u6b, rfl, ho, hb⟩
  obtain ⟨Ay6, cy6, ey⟩ := Kd.R_slice ho
  subst ey
  have Y6 := Aside0.mk ho
  have B6b := Aside0.mk hb
  clear ho hb
  go_wp2_with fail
  have T6 := Aside0.mk (three A5.out X6.out B6a.out Y6.out B6b.out (Kd.R_nil (Kd.int .u8) 5 W6b _ _) (Below.refl _ _))
  clear X6 Y6 B6a B6b A6a
  refine (octet_Size.calls v sa sb _ (GL.of_below HP.out.hG T6.out.1) P4.out).mono ?_
  rintro e w' ⟨rfl, ⟨n1, rfl⟩⟩
  go_wp2_with fail
  refine (caravelref01_Size.calls k v sa sb _ Q4.out).mono ?_
  rintro e w' ⟨rfl, ⟨n2, rfl⟩⟩
  go_wp2_with fail
  have T6 := Aside0.mk (drew3 T6.out (n1 + n2))
  refine (caravellaw01_behind.calls k _ u6a x3 Ay6 cy6 x3 e3 A0 c0 l0 none 0 [] 2 true z3 w3 _ T6.out.1 T6.out.2.1 T6.out.2.2.1 T6.out.2.2.2.1 (came HP.out.hr A5.out T6.out.1) HC0.out T6.out.2.2.2.2.1 T6.out.2.2.2.2.2 R3.out).mono ?_
  rintro e W6d ⟨rfl, _, hb, _⟩
  have A6 := Aside0.mk hb
  clear hb T6
  have hcv1 := Kd.C_string (P := Tryd.prog) (A := Ai) (c := ci) Tryd.underlying22 Tryd.underlying5 Tryd.underlying9 (in_C (Kd.R_below HP.out.hi A6.out))
  have hcv2 := Kd.C_string (P := Tryd.prog) (A := A0) (c := c0) Tryd.underlying22 Tryd.underlying5 Tryd.underlying9 (Kd.C_below HP.out.hr A6.out)
  have c20 := str_room l0 HN.out
  have c20b0 := eq_true c20
  have c20b1 : decide ((strOfNums l0).size + 1 ≤ 9223372036854775807) = true := decide_eq_true c20
  have c20b2 : (9223372036854775807 < (strOfNums l0).size + 1) = False := eq_false (Nat.not_lt.2 c20)
  have c21 := str_same l0
  have c21b0 : ((strOfNums (l0 ++ [90])).toList == ((strOfNums l0) ++ (⟨#[90]⟩ : ByteArray)).toList) = true := beq_iff_eq.mpr c21
  have c21b1 : ((strOfNums (l0 ++ [90])).toList != ((strOfNums l0) ++ (⟨#[90]⟩ : ByteArray)).toList) = false := bne_eq_false_iff_eq.mpr c21
  clear c20 c21
  go_wp2_with (go_at_call 12; (with_reducible refine (caravellaw01_names.calls true _ rfl).mono ?_); rintro e w' ⟨rfl, ⟨nd, rfl⟩⟩)
  go_ret
  exact ⟨rfl, pw_below_drewN (below_step HP.out.hb A6.out) _⟩
set_option maxHeartbeats 8000000 in
set_option maxRecDepth 100000 in
theorem puts_calls2 (k : Nat) (A0 : Option Addr) (c0 : Nat) (l0 : List Int) (v n : Int) (w : World) (hr0 : Kd.C (Kd.int .u8) w A0 l0.length l0) (hc0 : l0.length ≤ c0) (hG : GL w) (hl : l0.length + 2 ≤ 140737488355327)
    (x1 t1 z1 : List Int) (e1 b1 : Int) (p1 : octet_PutVar.f k l0 v = some (x1, e1)) (q1 : caravelref01_Var.f k v = some (t1, b1)) (r1 : caravellaw01_behind.f k x1 x1 e1 l0 t1 b1 = some (true, z1))
    (x2 t2 z2 : List Int) (e2 b2 : Int) (p2 : octet_PutWide.f k l0 v n = some (x2, e2)) (q2 : caravelref01_Wide.f k v n = some (t2, b2)) (r2 : caravellaw01_behind.f k x2 x2 e2 l0 t2 b2 = some (true, z2))
    (x3 z3 : List Int) (e3 b3 : Int) (p3 : octet_Put.f k l0 (IntKind.u64.wrap v) n = some (x3, e3)) (hn : 1 ≤ n ∧ 8 < n) (r3 : caravellaw01_behind.f k x3 x3 e3 l0 [] 2 = some (true, z3))
    (sa sb : Int) (p4 : octet_Size.f v = some (sa, sb)) (q4 : caravelref01_Size.f k v = some (sa, sb)) :
    Calls Tryd.prog 5 #[.slice A0 l0.length c0, .int .i64 v, .int .i64 n] w fun e w' => e = .returned (.bool true) ∧ Below w.heap.size w w' := by
  have HR0 := Aside0.mk hr0
  have HC0 := Aside0.mk hc0
  have HL := Aside0.mk hG
  have HN := Aside0.mk hl
  clear hr0 hc0 hG hl
  have P1 := Aside0.mk p1
  have Q1 := Aside0.mk q1
  have R1 := Aside0.mk r1
  clear p1 q1 r1
  have P2 := Aside0.mk p2
  have Q2 := Aside0.mk q2
  have R2 := Aside0.mk r2
  have P3 := Aside0.mk p3
  have R3 := Aside0.mk r3
  have P4 := Aside0.mk p4
  have Q4 := Aside0.mk q4
  clear p2 q2 r2 p3 r3 p4 q4
  have HB := Aside0.mk (Below.refl w.heap.size w)
  go_enter Tryd.func5, Tryd.ntmps5
  go_wp2_with (first
    | ((with_reducible refine gate_dst (N := 20) rfl ?_); refine Kd.R_lit (Kd.int .u8) _ 5 ?hg (N := 20) ?hd (xs := ([] : List Int)) (inner := []) (ok := fun _ => True) (okp := fun _ => True) ?hr ?hp (fun _ hk => hk) trivial (Below.refl _ _) (Nat.le_refl _) (by simp) ?_; (case hd => rfl); (case hg => rfl); (case hr => first | (go_simp; done) | (go_simp; rfl)); (case hp => exact (Reps.none _ _)); intro v1 w1 ho hb _ _; have H1 := Aside0.mk ho; have HB1 := Aside0.mk hb; clear ho hb HB)
    | ((with_reducible refine gate_builtin (b := .append) (xs := #[.tmp 20, .tmp 21]) rfl ?_); at_builtin; refine Kd.R_append_rows (Kd.int .u8) (w0 := w) w.heap.size rfl (.tmp 20) (.tmp 21) 22 5 (.int .u8 0) 1 rfl Tryd.underlying22 info5 rfl (by decide) (by omega) v1 [] l0 _ _ _ (fun _ => True) (fun _ => False) rfl rfl H1.out (Kd.C_below HR0.out HB1.out) (fun _ _ h => h) (fun _ h => h.elim) (fun _ _ => trivial) HB1.out HB1.out.size (by have := HN.out; simp; omega) ?_; intro v2 w2 ho hb _ _; have H2 := Aside0.mk ho; have HB2 := Aside0.mk hb; clear ho hb HB1 H1)
    | ((with_reducible refine gate_builtin (b := .append) (xs := #[.tmp 22, .tmp 23]) rfl ?_); at_builtin; refine Kd.R_append (Kd.int .u8) (w0 := w) w.heap.size rfl (.tmp 22) (.tmp 23) 22 5 (.int .u8 0) 1 rfl Tryd.underlying22 info5 rfl (by decide) (by omega) v2 ([] ++ l0) 90 [.int .u8 90] (fun _ => True) (fun _ => False) rfl rfl rfl (fun _ hk => hk.elim) (fun _ _ => trivial) H2.out HB2.out HB2.out.size (by have := HN.out; simp; omega) ?_; intro v3 w3 ho hb _ _; obtain ⟨Ai, ci, ei⟩ := Kd.R_slice (show Kd.R (Kd.int .u8) 5 w3 w.heap.size (fun _ => True) v3 (l0 ++ [90]) from ho); rw [len90] at ei; subst ei; have H3 := Aside0.mk (show Kd.R (Kd.int .u8) 5 w3 w.heap.size (fun _ => True) (.slice Ai (l0.length + 1) ci) (l0 ++ [90]) from ho); obtain ⟨i0, hi0, _, hsz, _⟩ := info_parts info5; have hcut := cut_to (P := Tryd.prog) 22 5 .i64 Tryd.underlying22 hi0 Ai (l0.length + 1) ci (l0.length : Int) (by omega) (by omega) (Kd.R_reads' H3.out).2.1; rw [Int.toNat_natCast] at hcut; clear hi0 hsz; have HP := Aside0.mk (Pre.mk hb H3.out (Kd.C_below HR0.out hb) (GL.of_below HL.out hb)); clear ho hb HB2 H2 H3))
  have A3 := Aside0.mk (Below.refl w3.heap.size w3)
  refine (octet_PutVar.calls k Ai ci l0 v x1 e1 _ (Kd.C_below (own_C HP.out.hi).2 A3.out) (own_C HP.out.hi).1 (GL.of_below HP.out.hG A3.out) P1.out).mono ?_
  rintro e W4a ⟨u4a, rfl, ho, hb⟩
  have X4 := Aside0.mk ho
  have B4a := Aside0.mk hb
  have A4a := Aside0.mk (below_step A3.out hb)
  clear ho hb
  go_wp2_with fail
  refine (octet_PutVar.calls k Ai ci l0 v x1 e1 _ (Kd.C_below (own_C HP.out.hi).2 A4a.out) (own_C HP.out.hi).1 (GL.of_below HP.out.hG A4a.out) P1.out).mono ?_
  rintro e W4b ⟨u4b, rfl, ho, hb⟩
  obtain ⟨Ay4, cy4, ey⟩ := Kd.R_slice ho
  subst ey
  have Y4 := Aside0.mk ho
  have B4b := Aside0.mk hb
  clear ho hb
  go_wp2_with fail
  refine (caravelref01_Var.calls k v t1 b1 _ Q1.out).mono ?_
  rintro e W4c ⟨u4c, rfl, ho, hb⟩
  obtain ⟨At4, ct4, et⟩ := Kd.R_slice ho
  subst et
  have T4 := Aside0.mk (three A3.out X4.out B4a.out Y4.out B4b.out ho hb)
  clear ho hb X4 Y4 B4a B4b A4a
  go_wp2_with fail
  refine (caravellaw01_behind.calls k _ u4a x1 Ay4 cy4 x1 e1 A0 c0 l0 At4 ct4 t1 b1 true z1 w3 _ T4.out.1 T4.out.2.1 T4.out.2.2.1 T4.out.2.2.2.1 (came HP.out.hr A3.out T4.out.1) HC0.out T4.out.2.2.2.2.1 T4.out.2.2.2.2.2 R1.out).mono ?_
  rintro e W4d ⟨rfl, _, hb, _⟩
  have A4 := Aside0.mk hb
  clear hb T4
  go_wp2_with fail
  refine (octet_PutWide.calls k Ai ci l0 v n x2 e2 _ (Kd.C_below (own_C HP.out.hi).2 A4.out) (own_C HP.out.hi).1 (GL.of_below HP.out.hG A4.out) P2.out).mono ?_
  rintro e W5a ⟨u5a, rfl, ho, hb⟩
  have X5 := Aside0.mk ho
  have B5a := Aside0.mk hb
  have A5a := Aside0.mk (below_step A4.out hb)
  clear ho hb
  go_wp2_with fail
  refine (octet_PutWide.calls k Ai ci l0 v n x2 e2 _ (Kd.C_below (own_C HP.out.hi).2 A5a.out) (own_C HP.out.hi).1 (GL.of_below HP.out.hG A5a.out) P2.out).mono ?_
  rintro e W5b ⟨u5b, rfl, ho, hb⟩
  obtain ⟨Ay5, cy5, ey⟩ := Kd.R_slice ho
  subst ey
  have Y5 := Aside0.mk ho
  have B5b := Aside0.mk hb
  clear ho hb
  go_wp2_with fail
  refine (caravelref01_Wide.calls k v n t2 b2 _ Q2.out).mono ?_
  rintro e W5c ⟨u5c, rfl, ho, hb⟩
  obtain ⟨At5, ct5, et⟩ := Kd.R_slice ho
  subst et
  have T5 := Aside0.mk (three A4.out X5.out B5a.out Y5.out B5b.out ho hb)
  clear ho hb X5 Y5 B5a B5b A5a
  go_wp2_with fail
  refine (caravellaw01_behind.calls k _ u5a x2 Ay5 cy5 x2 e2 A0 c0 l0 At5 ct5 t2 b2 true z2 w3 _ T5.out.1 T5.out.2.1 T5.out.2.2.1 T5.out.2.2.2.1 (came HP.out.hr A4.out T5.out.1) HC0.out T5.out.2.2.2.2.1 T5.out.2.2.2.2.2 R2.out).mono ?_
  rintro e W5d ⟨rfl, _, hb, _⟩
  have A5 := Aside0.mk hb
  clear hb T5
  go_wp2_with fail
  refine (octet_Put.calls k Ai ci l0 (IntKind.u64.wrap v) n x3 e3 _ (Kd.C_below (own_C HP.out.hi).2 A5.out) (own_C HP.out.hi).1 P3.out).mono ?_
  rintro e W6a ⟨u6a, rfl, ho, hb⟩
  have X6 := Aside0.mk ho
  have B6a := Aside0.mk hb
  have A6a := Aside0.mk (below_step A5.out hb)
  clear ho hb
  go_wp2_with fail
  refine (octet_Put.calls k Ai ci l0 (IntKind.u64.wrap v) n x3 e3 _ (Kd.C_below (own_C HP.out.hi).2 A6a.out) (own_C HP.out.hi).1 P3.out).mono ?_
  rintro e W6b ⟨u6b, rfl, ho, hb⟩
  obtain ⟨Ay6, cy6, ey⟩ := Kd.R_slice ho
  subst ey
  have Y6 := Aside0.mk ho
  have B6b := Aside0.mk hb
  clear ho hb
  go_wp2_with fail
  have T6 := Aside0.mk (three A5.out X6.out B6a.out Y6.out B6b.out (Kd.R_nil (Kd.int .u8) 5 W6b _ _) (Below.refl _ _))
  clear X6 Y6 B6a B6b A6a
  refine (octet_Size.calls v sa sb _ (GL.of_below HP.out.hG T6.out.1) P4.out).mono ?_
  rintro e w' ⟨rfl, ⟨n1, rfl⟩⟩
  go_wp2_with fail
  refine (caravelref01_Size.calls k v sa sb _ Q4.out).mono ?_
  rintro e w' ⟨rfl, ⟨n2, rfl⟩⟩
  go_wp2_with fail
  have T6 := Aside0.mk (drew3 T6.out (n1 + n2))
  refine (caravellaw01_behind.calls k _ u6a x3 Ay6 cy6 x3 e3 A0 c0 l0 none 0 [] 2 true z3 w3 _ T6.out.1 T6.out.2.1 T6.out.2.2.1 T6.out.2.2.2.1 (came HP.out.hr A5.out T6.out.1) HC0.out T6.out.2.2.2.2.1 T6.out.2.2.2.2.2 R3.out).mono ?_
  rintro e W6d ⟨rfl, _, hb, _⟩
  have A6 := Aside0.mk hb
  clear hb T6
  have hcv1 := Kd.C_string (P := Tryd.prog) (A := Ai) (c := ci) Tryd.underlying22 Tryd.underlying5 Tryd.underlying9 (in_C (Kd.R_below HP.out.hi A6.out))
  have hcv2 := Kd.C_string (P := Tryd.prog) (A := A0) (c := c0) Tryd.underlying22 Tryd.underlying5 Tryd.underlying9 (Kd.C_below HP.out.hr A6.out)
  have c20 := str_room l0 HN.out
  have c20b0 := eq_true c20
  have c20b1 : decide ((strOfNums l0).size + 1 ≤ 9223372036854775807) = true := decide_eq_true c20
  have c20b2 : (9223372036854775807 < (strOfNums l0).size + 1) = False := eq_false (Nat.not_lt.2 c20)
  have c21 := str_same l0
  have c21b0 : ((strOfNums (l0 ++ [90])).toList == ((strOfNums l0) ++ (⟨#[90]⟩ : ByteArray)).toList) = true := beq_iff_eq.mpr c21
  have c21b1 : ((strOfNums (l0 ++ [90])).toList != ((strOfNums l0) ++ (⟨#[90]⟩ : ByteArray)).toList) = false := bne_eq_false_iff_eq.mpr c21
  clear c20 c21
  go_wp2_with (go_at_call 12; (with_reducible refine (caravellaw01_names.calls true _ rfl).mono ?_); rintro e w' ⟨rfl, ⟨nd, rfl⟩⟩)
  go_ret
  exact ⟨rfl, pw_below_drewN (below_step HP.out.hb A6.out) _⟩
theorem puts_walk (a0 : Option Addr) (len0 cap0 : Nat) (z0 : List Int) (a1 : Int) (a2 : Int) (w : World) (w0 : (a0 = none ∧ len0 = 0 ∧ cap0 = 0 ∧ z0 = []) ∨ ∃ x, a0 = some x ∧ len0 ≤ cap0 ∧ cap0 ≤ maxLen ∧ z0.length = cap0 ∧ (∀ i, i < z0.length → w.cell? (x.add i) = some (.int .u8 (z0.getD i 0))) ∧ ∀ n ∈ z0, (Lit.int .u8 n).wf = true) (y0 : len0 * 1 ≤ 140737488351232) (w1 : (Lit.int .i64 a1).wf = true) (w2 : (Lit.int .i64 a2).wf = true) (hG : GL w) :
    Calls Tryd.prog 5 #[.slice a0 len0 cap0, .int .i64 a1, .int .i64 a2] w fun e w' => e = .returned (.bool true) ∧ Below w.heap.size w w' := by
  obtain ⟨l0, rfl, hr0, hm0, hw0, hc0⟩ := ReadsInt.ofRowC w0
  have hr := Kd.C_of_reads (d := (0 : Int)) (h1 := fun _ => rfl) hr0
  have hl : l0.length ≤ 140737488351232 := by omega
  have hk : 30 ≤ l0.length + 50 := by omega
  obtain ⟨x1, t1, e1, p1, q1, g1, s1⟩ := var_facts l0 a1 hl (l0.length + 50) hk
  obtain ⟨x2, t2, e2, p2, q2, g2, s2⟩ := wide_facts l0 a1 a2 hl (l0.length + 50) hk
  obtain ⟨sa, sb, p4⟩ := size_some a1
  obtain ⟨z1, r1⟩ := behind_ok x1 l0 t1 e1 e1 (l0.length + 50) rfl g1 (by omega) (by omega)
  obtain ⟨z2, r2⟩ := behind_ok x2 l0 t2 e2 e2 (l0.length + 50) rfl g2 (by omega) (by omega)
  have q4 : caravelref01_Size.f (l0.length + 50) a1 = some (sa, sb) := by rw [refSize_ok a1 _ (by omega), p4]
  by_cases hn : 1 ≤ a2 ∧ a2 ≤ 8
  · obtain ⟨t3, p3, q3, s3⟩ := put_in l0 (IntKind.u64.wrap a1) a2 hn hl (l0.length + 50) hk
    obtain ⟨z3, r3⟩ := behind_ok (l0 ++ t3) l0 t3 0 0 (l0.length + 50) rfl (by rw [if_pos rfl]) (by omega) (by omega)
    exact puts_calls (l0.length + 50) a0 cap0 l0 a1 a2 w hr hc0 hG (by omega) x1 t1 z1 e1 e1 p1 q1 r1 x2 t2 z2 e2 e2 p2 q2 r2 (l0 ++ t3) t3 z3 0 0 p3 hn q3 r3 sa sb p4 q4
  · have p3 := put_out l0 (IntKind.u64.wrap a1) a2 (by omega) (l0.length + 50)
    obtain ⟨z3, r3⟩ := behind_ok [] l0 [] 2 2 (l0.length + 50) rfl (by rw [if_neg (by decide)]) (by simp; omega) (by simp)
    by_cases h1 : a2 < 1
    · exact puts_calls1 (l0.length + 50) a0 cap0 l0 a1 a2 w hr hc0 hG (by omega) x1 t1 z1 e1 e1 p1 q1 r1 x2 t2 z2 e2 e2 p2 q2 r2 [] z3 2 2 p3 h1 r3 sa sb p4 q4
    · exact puts_calls2 (l0.length + 50) a0 cap0 l0 a1 a2 w hr hc0 hG (by omega) x1 t1 z1 e1 e1 p1 q1 r1 x2 t2 z2 e2 e2 p2 q2 r2 [] z3 2 2 p3 ⟨by omega, by omega⟩ r3 sa sb p4 q4
end Go.Proofs.YtpilpgdlgkndmaaDoor.Puts
