/- Boxes (layer 6): Put in general, not the last piece; no condition. -/
import Derived.Test.YtakmcbakogjeeaaIb5
set_option linter.unusedVariables false
set_option linter.unusedSimpArgs false
namespace Go.Proofs.Ytakmcbakogjeeaa.Ib
open Go Go.RowKit Go.Maps Go.Proofs.Ytakmcbakogjeeaa.Rm
open Go.Proofs.YtakmcbakogjeeaaW.PrintWords Go.Proofs.YtakmcbakogjeeaaW.PrintLast Go.Proofs.YtakmcbakogjeeaaW.PrintMore
variable {W W' W2 : World} {b g m n : Nat} {D : Nat → Prop} {h : Hd} {kv : KV}
set_option maxRecDepth 100000 in
set_option maxHeartbeats 12800000 in
/-- A piece taken. -/
theorem put_f {P : List Pc} (x : BoxAt W b g m n h kv) (hP : Pcs W D kv P) (hok : OkP h.place P) (hkl : kv.length ≤ 1048576) (hpl : h.place ≤ 4611686018427387903) (hends : ∀ p ∈ P, p.1 + p.2.length ≤ 4611686018427387903) (off : Int) (A : Option Addr) (len cap : Nat) (fin : Bool) (h0 : 0 ≤ off) (h1 : off ≤ 4611686018427387903 - len) (hl : len ≤ 140737488355328) (hv : endsV h (off + len) fin = 0) (hp0 : 0 ≤ h.place) (hr0 : 0 ≤ h.reach) (hr1 : h.reach ≤ 4611686018427387903) (hbw : b ≤ W.heap.size) (hD : ∀ k, W.heap.size ≤ k → D k)
    (hcap : len ≤ cap) (xs : List Int) (hxs : xs.length = len) (hA : 0 < len → ∃ ad, A = some ad ∧ ad.block ≠ g ∧ ad.block ≠ m ∧ ad.block < W.heap.size ∧ ∀ i u, xs[i]? = some u → W.cell? (ad.add i) = some (.int .u8 u))
    (hfn : fin = false) :
    Calls Try.prog 19 #[.pointer (some ⟨g, 0, none⟩), .int .i64 off, .slice A len cap, .bool fin] W fun e w' => e = .returned (.int .i64 0) ∧ ∃ kv', BoxAt w' b g m kv'.length (putH h off len fin) kv' ∧ Pcs w' D kv' (fill xs off P (max off h.place) (off + len)) ∧ (∀ k, k < W.heap.size → k ≠ g → k ≠ m → w'.heap[k]? = W.heap[k]?) ∧ Below b W w' := by
  have HDN := Aside0.mk hD
  clear hD
  have HFN := Aside0.mk hfn
  clear hfn
  have X := Aside0.mk x
  have PS := Aside0.mk hP
  have HOK := Aside0.mk hok
  have HEN := Aside0.mk hends
  have hPl : kv.length = P.length := hP.length
  clear x hP hok hends
  have m1 := run_max h.reach (off + len)
  have m2 := run_max off h.place
  obtain ⟨rc, hrc⟩ : ∃ rc, max h.reach (off + len) = rc := ⟨_, rfl⟩
  rw [hrc] at m1
  obtain ⟨at0, hat0⟩ : ∃ at0, max off h.place = at0 := ⟨_, rfl⟩
  rw [hat0] at m2 ⊢
  have hat1 : off ≤ at0 := by omega
  have hat2 : at0 ≤ 4611686018427387903 := by omega
  have HRC : Aside0 (putH h off len fin = (if fin then { h with reach := rc, known := true, final := off + len } else { h with reach := rc })) := ⟨by unfold putH; rw [hrc]⟩
  clear hrc hat0
  go_enter Try.func19, Try.ntmps19
  go_upto_region 1 with fail
  obtain ⟨B0, hB0⟩ : ∃ B0, W.heap.size = B0 := ⟨_, rfl⟩
  have hb : Below W.heap.size W (((W.alloc (.cells #[.pointer (some ⟨g, 0, none⟩)] 23)).alloc (.cells #[.int .i64 off] 3)).alloc (.cells #[.slice A len cap] 22)) := ((below_alloc (Below.refl _ W) _).alloc (by simp) _).alloc (by simp; omega) _
  have b1 : Boxed (((W.alloc (.cells #[.pointer (some ⟨g, 0, none⟩)] 23)).alloc (.cells #[.int .i64 off] 3)).alloc (.cells #[.slice A len cap] 22)) B0 23 (.pointer (some ⟨g, 0, none⟩)) := by rw [← hB0]; exact ((Boxed.new W _ _).alloc _).alloc _
  have b2 : Boxed (((W.alloc (.cells #[.pointer (some ⟨g, 0, none⟩)] 23)).alloc (.cells #[.int .i64 off] 3)).alloc (.cells #[.slice A len cap] 22)) (B0 + 1) 3 (.int .i64 off) := by
    have h := (Boxed.new (W.alloc (.cells #[.pointer (some ⟨g, 0, none⟩)] 23)) 3 (.int .i64 off)).alloc (.cells #[.slice A len cap] 22)
    rw [World.size_alloc, hB0] at h
    exact h
  have b3 : Boxed (((W.alloc (.cells #[.pointer (some ⟨g, 0, none⟩)] 23)).alloc (.cells #[.int .i64 off] 3)).alloc (.cells #[.slice A len cap] 22)) (B0 + 2) 22 (.slice A len cap) := by
    have h := Boxed.new ((W.alloc (.cells #[.pointer (some ⟨g, 0, none⟩)] 23)).alloc (.cells #[.int .i64 off] 3)) 22 (.slice A len cap)
    rw [World.size_alloc, World.size_alloc, hB0] at h
    exact h
  obtain ⟨W0, hW0⟩ : ∃ W0, (((W.alloc (.cells #[.pointer (some ⟨g, 0, none⟩)] 23)).alloc (.cells #[.int .i64 off] 3)).alloc (.cells #[.slice A len cap] 22)) = W0 := ⟨_, rfl⟩
  rw [hW0] at hb b1 b2 b3 ⊢
  rw [hB0]
  clear hW0
  have n0 := Aside0.mk (X.out.below hb)
  have X0 : Aside0 (g < B0) := ⟨by have := X.out.lt; omega⟩
  clear X
  have X := n0
  clear n0
  have CE := Aside0.mk (ends_s X.out (off + len) fin)
  rw [hv] at CE
  have CN := Aside0.mk (none_s X.out)
  have HB := Aside0.mk hb
  have HK : Aside0 (∀ k, k < W.heap.size → k ≠ g → W0.heap[k]? = W.heap[k]?) := ⟨fun k hk _ => HB.out.block k hk⟩
  have PS0 := Aside0.mk (PS.out.below hb)
  have B1 := Aside0.mk b1
  have B2 := Aside0.mk b2
  have B3 := Aside0.mk b3
  have HA := Aside0.mk hA
  have e1 := b1.cell
  have e2 := b2.cell
  have e3 := b3.cell
  obtain ⟨c0, c1, c2, c3, c4, c5, c6, c7⟩ := X.out.c
  have f4 := X.out.free 4
  have f5 := X.out.free 5
  have f6 := X.out.free 6
  have HB0 := Aside0.mk hB0
  clear hb b1 b2 b3 hA hv hB0
  go_wp2_with (first
    | (go_at_call 74; refine CN.out.mono ?_; rintro e w' ⟨rfl, rfl⟩)
    | (go_at_call 75; refine CE.out.mono ?_; rintro e w' ⟨rfl, rfl⟩))
  go_region
  have y1 := (X.out.put 4 (.int .i64 rc) { h with reach := rc } rfl)
  have hgx := X.out.hg
  have hb1 : Below b W0 (W0.setCell ⟨g, 4, none⟩ (.int .i64 rc)).drew := ((Below.refl b W0).setCell (p := ⟨g, 4, none⟩) hgx _).drew
  have hx1 : BoxAt (W0.setCell ⟨g, 4, none⟩ (.int .i64 rc)).drew b g m n { h with reach := rc } kv := ⟨y1.hg, y1.hm, y1.blk, y1.mp.drew⟩
  have far1 : ∀ k, k ≠ g → (W0.setCell ⟨g, 4, none⟩ (.int .i64 rc)).drew.heap[k]? = W0.heap[k]? := fun k hk => Below.heap_setCell W0 ⟨g, 4, none⟩ (.int .i64 rc) k hk
  obtain ⟨W1, hW1⟩ : ∃ W1, (W0.setCell ⟨g, 4, none⟩ (.int .i64 rc)).drew = W1 := ⟨_, rfl⟩
  rw [hW1] at hb1 hx1 far1 ⊢
  have hg0 : g < B0 := by have := X0.out; omega
  have n1 := Aside0.mk (show Boxed W1 B0 23 (.pointer (some ⟨g, 0, none⟩)) from (far1 B0 (by omega)).trans B1.out)
  have n2 := Aside0.mk (show Boxed W1 (B0 + 1) 3 (.int .i64 off) from (far1 (B0 + 1) (by omega)).trans B2.out)
  have n3 := Aside0.mk (show Boxed W1 (B0 + 2) 22 (.slice A len cap) from (far1 (B0 + 2) (by omega)).trans B3.out)
  have hb1' := Aside0.mk hb1
  have HK1 : Aside0 (∀ k, k < W.heap.size → k ≠ g → W1.heap[k]? = W.heap[k]?) := ⟨fun k hk hne => (far1 k hne).trans (HK.out k hk hne)⟩
  have PS1 : Aside0 (Pcs W1 D kv P) := ⟨PS0.out.move (fun k cs hk => far1 k (by rintro rfl; rw [X.out.blk] at hk; injection hk with hk; injection hk with _ hk; exact absurd hk (by decide)))⟩
  have HB1 := hb1'
  clear X CN CE B1 B2 B3 e1 e2 e3 c0 c1 c2 c3 c4 c5 c6 c7 f4 f5 f6 y1 far1 hW1 m1
  have X := Aside0.mk hx1
  have B1 := n1
  have B2 := n2
  have B3 := n3
  clear hx1 n1 n2 n3 hb1
  have e1 := B1.out.cell
  have e2 := B2.out.cell
  have e3 := B3.out.cell
  obtain ⟨c0, c1, c2, c3, c4, c5, c6, c7⟩ := X.out.c
  have f4 := X.out.free 4
  have f5 := X.out.free 5
  have f6 := X.out.free 6
  simp only at c1 c2 c3 c4 c5 c6
  cases fin with
  | true =>
    exact absurd HFN.out (by decide)
  | false =>
    have a1 := (B1.out.alloc (.cells #[.int .i64 0] 3)).cell
    have a2 := (B2.out.alloc (.cells #[.int .i64 0] 3)).cell
    have a3 := (X.out.below (below_alloc (Below.refl _ _) (.cells #[.int .i64 0] 3))).c.2.2.1
    simp only at a3
    go_upto_region 12 with fail
    go_region
    obtain ⟨AB, hAB⟩ : ∃ AB, W1.heap.size = AB := ⟨_, rfl⟩
    have hab : Boxed (W1.alloc (.cells #[.int .i64 at0] 3)).drew AB 3 (.int .i64 at0) := by rw [← hAB]; exact Boxed.new W1 _ _
    have hba : Below W1.heap.size W1 (W1.alloc (.cells #[.int .i64 at0] 3)).drew := (below_alloc (Below.refl _ W1) _).drew
    rw [hAB]
    obtain ⟨Wa, hWa⟩ : ∃ Wa, (W1.alloc (.cells #[.int .i64 at0] 3)).drew = Wa := ⟨_, rfl⟩
    rw [hWa] at hab hba ⊢
    have hABg : B0 + 2 < AB := by rw [← hAB]; exact B3.out.lt
    clear hWa hAB a1 a2 a3
    have n0 := Aside0.mk (X.out.below hba)
    have n1 := Aside0.mk (show Boxed Wa B0 23 (.pointer (some ⟨g, 0, none⟩)) from (hba.block _ B1.out.lt).trans B1.out)
    have n2 := Aside0.mk (show Boxed Wa (B0 + 1) 3 (.int .i64 off) from (hba.block _ B2.out.lt).trans B2.out)
    have n3 := Aside0.mk (show Boxed Wa (B0 + 2) 22 (.slice A len cap) from (hba.block _ B3.out.lt).trans B3.out)
    have n4 := Aside0.mk (bl_then HB1.out (by have := X.out.hg; have := X.out.lt; omega) hba)
    have PSA := Aside0.mk (PS1.out.below hba)
    have HKA : Aside0 (∀ k, k < W.heap.size → k ≠ g → Wa.heap[k]? = W.heap[k]?) := ⟨fun k hk hne => (hba.block k (by have h1 := X.out.lt; have h2 := B1.out.lt; have h3 := HB0.out; omega)).trans (HK1.out k hk hne)⟩
    clear X B1 B2 B3 HB1 e1 e2 e3 c0 c1 c2 c3 c4 c5 c6 c7 f4 f5 f6 hba
    have X := n0
    have B1 := n1
    have B2 := n2
    have B3 := n3
    have BA := Aside0.mk hab
    have HB1 := n4
    clear n0 n1 n2 n3 n4 hab
    have e1 := B1.out.cell
    go_wp2_with (go_at_call 78; (refine (starts_s X.out hkl).mono ?_); rintro e Wb ⟨As, cs, rfl, ho, hb⟩; have HBB := Aside0.mk hb; have HRO := Aside0.mk ho; clear hb ho e1)
    have XB := Aside0.mk (X.out.below HBB.out).tight
    have n1 := Aside0.mk (show Boxed Wb B0 23 (.pointer (some ⟨g, 0, none⟩)) from (HBB.out.block _ B1.out.lt).trans B1.out)
    have n2 := Aside0.mk (show Boxed Wb (B0 + 1) 3 (.int .i64 off) from (HBB.out.block _ B2.out.lt).trans B2.out)
    have n3 := Aside0.mk (show Boxed Wb (B0 + 2) 22 (.slice A len cap) from (HBB.out.block _ B3.out.lt).trans B3.out)
    have n4 := Aside0.mk (show Boxed Wb AB 3 (.int .i64 at0) from (HBB.out.block _ BA.out.lt).trans BA.out)
    have PSB := Aside0.mk (PSA.out.below HBB.out)
    have hABl : AB < Wa.heap.size := BA.out.lt
    clear B1 B2 B3 BA
    have B1 := n1
    have B2 := n2
    have B3 := n3
    have BA := n4
    clear n1 n2 n3 n4
    go_loopw [67] (fun iv W' => PutRel Wb D b g m AB { h with reach := rc } kv P xs off at0 (off + len) iv W') (fun iv _ => kv.length - (intOf iv).toNat)
    case atStart => exact ⟨0, [], [], at0, _, Nat.zero_le _, rfl, XB.out, by omega, trivial, PSB.out, (fun p hp => by cases hp), Int.le_refl _, rfl, BA.out, Frm.refl _ _ _⟩
    case round =>
      obtain ⟨k, KA, PA, a, n', hk, rfl, hx, hn', hA, hB, hlt, ha0, hfill, hba, hfr⟩ := hrel
      have XR := Aside0.mk hx
      have PA1 := Aside0.mk hA
      have PB1 := Aside0.mk hB
      have HLT := Aside0.mk hlt
      have HFI := Aside0.mk hfill
      have BAR := Aside0.mk hba
      have HFR := Aside0.mk hfr
      clear hx hA hB hlt hfill hba hfr
      have hbW : Below b W Wb := (HB.out.mono hbw).trans ((HB1.out).trans (HBB.out.mono (by have := X.out.hg; have := X.out.lt; omega)))
      have hbm : b ≤ m := XR.out.hm
      have hbA : b ≤ AB := by have := HB0.out; omega
      have hbWb : b ≤ Wb.heap.size := by have := XB.out.hg; have := XB.out.lt; omega
      have hbr : Below b Wb wr := HFR.out.bel hbm hbA hbWb
      have hmB : ∀ {kk : Nat} {t : TypeId} {u : Value}, Boxed Wb kk t u → kk < AB → Boxed wr kk t u := fun {kk t u} hh hl => (HFR.out.block kk hh.lt (fun e => map_ne_cells XB.out.mp hh e.symm) (by omega)).trans hh
      have b1 := hmB B1.out (by omega)
      have b2 := hmB B2.out (by omega)
      have b3 := hmB B3.out (by omega)
      have e1 := b1.cell
      have e7 := XR.out.c.2.2.2.2.2.2.2
      have eA := BAR.out.cell
      have fA := BAR.out.frozen
      have R1 := Aside0.mk b1
      have R2 := Aside0.mk b2
      have R3 := Aside0.mk b3
      have HFRAME : Aside0 (∀ w', ButM wr w' m → (∀ kk, kk < W.heap.size → kk ≠ g → kk ≠ m → w'.heap[kk]? = W.heap[kk]?) ∧ Below b W w') := ⟨fun w' hbm' => ⟨fun kk hkk h1 h2 => by
        have l1 := HB0.out
        have l2 := B1.out.lt
        have l3 := HBB.out.size
        rw [hbm'.block kk (by have := HFR.out.size; omega) h2, HFR.out.block kk (by omega) h2 (by omega), HBB.out.block kk (by omega), HKA.out kk hkk h1], (hbW.trans hbr).trans (hbm'.below hbm (by have := HFR.out.size; omega))⟩⟩
      have CUP : Aside0 (∀ stop, a < stop → stop ≤ off + len → (∀ p ∈ kv.drop k, a < p.1) → Calls Try.prog 76 #[.int .i64 stop, .pointer (some ⟨AB, 0, none⟩), .pointer (some ⟨B0 + 2, 0, none⟩), .pointer (some ⟨B0 + 1, 0, none⟩), .pointer (some ⟨B0, 0, none⟩)] wr fun e w' => e = .returned (.tuple #[]) ∧ ∃ v, BoxAt w' b g m (n' + 1) { h with reach := rc } (KA ++ (a, v) :: kv.drop k) ∧ Piece w' D v (seg xs off a stop) ∧ Pcs w' D (KA ++ (a, v) :: kv.drop k) (PA ++ (a, seg xs off a stop) :: P.drop k) ∧ ButM wr w' m) := ⟨fun stop s1 s2 s3 => by
        obtain ⟨ad, hAd, hd1, hd2, hd3, hbytes⟩ := HA.out (by omega)
        have b3' := R3.out
        rw [hAd] at b3'
        refine (upto_s XR.out xs hxs BAR.out b3' R2.out R1.out (fun i u hu => (World.cell?_of_block ((HFRAME.out wr (ButM.of_below (Below.refl _ _))).1 _ (by rw [add_blk]; exact hd3) (by rw [add_blk]; exact hd1) (by rw [add_blk]; exact hd2))).trans (hbytes i u hu)) stop h0 (by omega) s1 s2 hcap hl (by omega) (by unfold maxLen; omega) (fun kk hkk => HDN.out kk (by have := (hbW.trans hbr).size; omega))).mono ?_
        rintro e w' ⟨rfl, v, hx', hp', hbm'⟩
        rw [put_mid v HLT.out s3] at hx'
        exact ⟨rfl, v, hx', hp', pcs_append (PA1.out.butM hbm' XR.out.mp) ⟨rfl, hp', PB1.out.butM hbm' XR.out.mp⟩, hbm'⟩⟩
      have CNO : Aside0 (∀ stop, stop ≤ a → Calls Try.prog 76 #[.int .i64 stop, .pointer (some ⟨AB, 0, none⟩), .pointer (some ⟨B0 + 2, 0, none⟩), .pointer (some ⟨B0 + 1, 0, none⟩), .pointer (some ⟨B0, 0, none⟩)] wr fun e w' => e = .returned (.tuple #[]) ∧ wr = w') := ⟨fun stop hs => upto_no BAR.out stop hs⟩
      clear hbW hbr hmB b1 b2 b3
      by_cases hlt2 : k < kv.length
      · obtain ⟨q, hq⟩ : ∃ q, P[k]? = some q := ⟨_, List.getElem?_eq_getElem (by omega)⟩
        obtain ⟨vq, hvq, hpq⟩ := PB1.out.get (i := 0) (q := q) (by rw [List.getElem?_drop]; exact hq)
        rw [List.getElem?_drop, Nat.add_zero] at hvq
        obtain ⟨blk, po, pc, rfl, hpc1, hpc2, _, _, _⟩ := hpq.cell
        obtain ⟨o1, o2, o3⟩ := okP_behind HOK.out hq
        have hql : 0 < q.2.length := List.length_pos_iff.2 o2
        have hqe := HEN.out q (List.mem_of_getElem? hq)
        have HDK := Aside0.mk (drop_at hvq)
        have HPK := Aside0.mk (drop_at hq)
        have hwf : (Lit.int .i64 q.1).wf = true := by
          have m0 : IntKind.i64.min = -9223372036854775808 := by decide +kernel
          have m1 : IntKind.i64.max = 9223372036854775807 := by decide +kernel
          simp [Lit.wf, m0, m1]
          omega
        have hlkf := lookS XR.out.mp (k := q.1) (List.mem_append_right _ (by rw [HDK.out]; exact List.mem_cons_self)) hwf
        obtain ⟨gs, cs', hAs, gs1, gs2, ⟨csx, gs3⟩, gs4, gs5⟩ := own_at HRO.out (k := k) (u := .int .i64 q.1) (by rw [List.getElem?_map, hvq]; rfl)
        injection hAs with hAs1 _ hAs2
        subst hAs1; subst hAs2
        have erow : wr.cell? ⟨gs, k, none⟩ = some (.int .i64 q.1) := (World.cell?_of_block (a := ⟨gs, k, none⟩) (HFR.out.block gs gs2 (fun e => map_ne_cells XB.out.mp gs3 e.symm) (by omega))).trans gs5
        have hk1 : (k : Int) < kv.length := by omega
        have hgeD : ∀ p ∈ kv.drop k, q.1 ≤ p.1 := pcs_ge PB1.out (fun x hx => by
          rw [HPK.out] at hx
          rcases List.mem_cons.1 hx with rfl | hx
          · exact Int.le_refl _
          · have := okP_keys o3 x hx; omega)
        have HGE := Aside0.mk hgeD
        have HPQ := Aside0.mk hpq
        have HVQ := Aside0.mk hvq
        have HO3 := Aside0.mk o3
        have mA := run_max a (q.1 + q.2.length)
        obtain ⟨a', ha'⟩ : ∃ a', max a (q.1 + q.2.length) = a' := ⟨_, rfl⟩
        rw [ha'] at mA
        have ha1 : a ≤ a' := by omega
        have ha2 : q.1 + q.2.length ≤ a' := by omega
        have HA' := Aside0.mk ha'
        clear hq hvq hpq o2 o3 hgeD gs3 gs5 ha' hwf
        by_cases c1 : q.1 + q.2.length ≤ a
        · go_wp2_with fail
          refine ⟨⟨k + 1, KA ++ [(q.1, .slice (some ⟨blk, po, none⟩) q.2.length pc)], PA ++ [q], a, n', by omega, by simp, ?_, by omega, pcs_append PA1.out ⟨rfl, HPQ.out, trivial⟩, ?_, ?_, ha0, ?_, BAR.out, HFR.out⟩, by simp [intOf]; omega⟩
          · have := XR.out
            rw [HDK.out] at this
            simpa using this
          · have := PB1.out
            rw [HDK.out, HPK.out] at this
            exact this.2.2
          · intro p hp
            rcases List.mem_append.1 hp with h | h
            · exact HLT.out p h
            · rw [List.mem_singleton.1 h]; simp only; omega
          · rw [HFI.out, HPK.out, fill_skip c1]
            simp
        · have c1' : a < q.1 + q.2.length := by omega
          have HC1 := Aside0.mk c1
          clear c1
          by_cases c2 : q.1 ≥ off + len
          · by_cases hg : off + len > a
            · have hg' : a < off + len := hg
              have HG := Aside0.mk hg
              clear hg
              have CU := Aside0.mk (CUP.out (off + len) (by omega) (Int.le_refl _) (fun p hp => by have := HGE.out p hp; omega))
              go_wp2_with (go_at_call 76; (with_reducible refine CU.out.mono ?_); rintro e Wc ⟨rfl, v, hx, hpv, hpc, hbm2⟩; have HPV := Aside0.mk hpv; clear hpv; have XC := Aside0.mk hx.tight; have PC := Aside0.mk hpc; have HBM := Aside0.mk hbm2; clear hx hpc hbm2)
              go_ret
              refine ⟨rfl, KA ++ (a, v) :: kv.drop k, ?_, ?_, (HFRAME.out _ HBM.out).1, (HFRAME.out _ HBM.out).2⟩
              · rw [HRC.out]; simp only [if_true, if_false, Bool.false_eq_true]; exact XC.out
              · rw [HFI.out, HPK.out, fill_stop (show ¬ q.1 + (q.2.length : Int) ≤ a by omega) c2, gap_some HG.out, ← HPK.out]; exact (by simpa using PC.out)
            · have hg' : off + len ≤ a := by omega
              have HG := Aside0.mk hg
              clear hg
              have CU := Aside0.mk (CNO.out (off + len) (by omega))
              go_wp2_with (go_at_call 76; (with_reducible refine CU.out.mono ?_); rintro e Wc ⟨rfl, rfl⟩)
              go_ret
              refine ⟨rfl, KA ++ kv.drop k, ?_, ?_, (HFRAME.out _ (ButM.of_below (Below.refl _ _))).1, (HFRAME.out _ (ButM.of_below (Below.refl _ _))).2⟩
              · rw [HRC.out]; simp only [if_true, if_false, Bool.false_eq_true]; exact XR.out.tight
              · rw [HFI.out, HPK.out, fill_stop (show ¬ q.1 + (q.2.length : Int) ≤ a by omega) c2, gap_none (show ¬ off + (len : Int) > a by omega), ← HPK.out]; exact (by simpa using pcs_append PA1.out PB1.out)
          · have c2' : q.1 < off + len := by omega
            have HC2 := Aside0.mk c2
            clear c2
            by_cases hg : q.1 > a
            · have HG := Aside0.mk hg
              have hg' : a < q.1 := hg
              clear hg
              have CU := Aside0.mk (CUP.out q.1 hg' (by omega) (fun p hp => by have := HGE.out p hp; omega))
              go_wp2_with (go_at_call 76; (with_reducible refine CU.out.mono ?_); rintro e Wc ⟨rfl, v, hx, hpv, hpc, hbm2⟩; have HPV := Aside0.mk hpv; clear hpv; have XC := Aside0.mk hx; have PC := Aside0.mk hpc; have HBM := Aside0.mk hbm2; have BAC := Aside0.mk (show Boxed Wc AB 3 (.int .i64 a) from (hbm2.block AB BAR.out.lt (fun e => map_ne_cells XR.out.mp BAR.out e.symm)).trans BAR.out); clear hx hpc hbm2 eA fA; have eA := BAC.out.cell; have fA := BAC.out.frozen)
              refine ⟨⟨k + 1, KA ++ [(a, v), (q.1, .slice (some ⟨blk, po, none⟩) q.2.length pc)], PA ++ [(a, seg xs off a q.1), q], a', n' + 1, by omega, by simp, ?_, by omega, ?_, ?_, ?_, by omega, ?_, BAC.out.set _, (HFR.out.butM HBM.out).set _⟩, by simp [intOf]; omega⟩
              · have := XC.out.far BAC.out (.int .i64 a')
                rw [HDK.out] at this
                simpa using this
              · exact (pcs_append (PA1.out.butM HBM.out XR.out.mp) (show Pcs Wc D [(a, v), (q.1, .slice (some ⟨blk, po, none⟩) q.2.length pc)] [(a, seg xs off a q.1), q] from ⟨rfl, HPV.out, rfl, HPQ.out.butM HBM.out XR.out.mp, trivial⟩)).far BAC.out _
              · have := PB1.out.butM HBM.out XR.out.mp
                rw [HDK.out, HPK.out] at this
                exact this.2.2.far BAC.out _
              · intro p hp
                rcases List.mem_append.1 hp with h | h
                · have := HLT.out p h; omega
                · rcases List.mem_cons.1 h with rfl | h
                  · simp only; omega
                  · rw [List.mem_singleton.1 h]; simp only; omega
              · rw [HFI.out, HPK.out, fill_go (show ¬ q.1 + (q.2.length : Int) ≤ a by omega) (show ¬ q.1 ≥ off + (len : Int) by omega), gap_some HG.out, HA'.out]
                simp
            · have HG := Aside0.mk hg
              have hg' : q.1 ≤ a := by omega
              clear hg
              have CU := Aside0.mk (CNO.out q.1 hg')
              go_wp2_with (go_at_call 76; (with_reducible refine CU.out.mono ?_); rintro e Wc ⟨rfl, rfl⟩)
              refine ⟨⟨k + 1, KA ++ [(q.1, .slice (some ⟨blk, po, none⟩) q.2.length pc)], PA ++ [q], a', n', by omega, by simp, ?_, by omega, (pcs_append PA1.out (show Pcs wr D [(q.1, .slice (some ⟨blk, po, none⟩) q.2.length pc)] [q] from ⟨rfl, HPQ.out, trivial⟩)).far BAR.out _, ?_, ?_, by omega, ?_, BAR.out.set _, HFR.out.set _⟩, by simp [intOf]; omega⟩
              · have := XR.out.far BAR.out (.int .i64 a')
                rw [HDK.out] at this
                simpa using this
              · have := PB1.out
                rw [HDK.out, HPK.out] at this
                exact this.2.2.far BAR.out _
              · intro p hp
                rcases List.mem_append.1 hp with h | h
                · have := HLT.out p h; omega
                · rw [List.mem_singleton.1 h]; simp only; omega
              · rw [HFI.out, HPK.out, fill_go (show ¬ q.1 + (q.2.length : Int) ≤ a by omega) (show ¬ q.1 ≥ off + (len : Int) by omega), gap_none (show ¬ q.1 > a by omega), HA'.out]
                simp
      · obtain rfl : k = kv.length := by omega
        have hd1 : kv.drop kv.length = [] := List.drop_length
        have hd2 : P.drop kv.length = [] := by rw [hPl]; exact List.drop_length
        have HD1 := Aside0.mk hd1
        have HD2 := Aside0.mk hd2
        clear hd1 hd2
        by_cases hg : off + len > a
        · have hg' : a < off + len := hg
          have HG := Aside0.mk hg
          clear hg
          have CU := Aside0.mk (CUP.out (off + len) (by omega) (Int.le_refl _) (fun p hp => by rw [HD1.out] at hp; cases hp))
          go_wp2_with (go_at_call 76; (with_reducible refine CU.out.mono ?_); rintro e Wc ⟨rfl, v, hx, hpv, hpc, hbm2⟩; have HPV := Aside0.mk hpv; clear hpv; have XC := Aside0.mk hx.tight; have PC := Aside0.mk hpc; have HBM := Aside0.mk hbm2; clear hx hpc hbm2)
          go_ret
          refine ⟨rfl, KA ++ (a, v) :: kv.drop kv.length, ?_, ?_, (HFRAME.out _ HBM.out).1, (HFRAME.out _ HBM.out).2⟩
          · rw [HRC.out]; simp only [if_true, if_false, Bool.false_eq_true]; exact XC.out
          · rw [HFI.out, HD2.out, fill_nil, gap_some HG.out, ← HD2.out]; exact (by simpa using PC.out)
        · have hg' : off + len ≤ a := by omega
          have HG := Aside0.mk hg
          clear hg
          have CU := Aside0.mk (CNO.out (off + len) (by omega))
          go_wp2_with (go_at_call 76; (with_reducible refine CU.out.mono ?_); rintro e Wc ⟨rfl, rfl⟩)
          go_ret
          refine ⟨rfl, KA ++ kv.drop kv.length, ?_, ?_, (HFRAME.out _ (ButM.of_below (Below.refl _ _))).1, (HFRAME.out _ (ButM.of_below (Below.refl _ _))).2⟩
          · rw [HRC.out]; simp only [if_true, if_false, Bool.false_eq_true]; exact XR.out.tight
          · have hh := pcs_append PA1.out PB1.out
            rw [HD2.out] at hh
            rw [HFI.out, HD2.out, fill_nil, gap_none (show ¬ off + (len : Int) > a by omega)]
            exact hh
end Go.Proofs.Ytakmcbakogjeeaa.Ib
