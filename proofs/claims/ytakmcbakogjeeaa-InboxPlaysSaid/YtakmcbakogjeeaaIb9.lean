/- Boxes (layer 6): Held; no condition. -/
import Derived.Test.YtakmcbakogjeeaaIb5
import Derived.Test.YtakmcbakogjeeaaIb6
set_option linter.unusedVariables false
set_option linter.unusedSimpArgs false
namespace Go.Proofs.Ytakmcbakogjeeaa.Ib
open Go Go.RowKit Go.Maps Go.Proofs.Ytakmcbakogjeeaa.Rm
open Go.Proofs.YtakmcbakogjeeaaW.PrintWords Go.Proofs.YtakmcbakogjeeaaW.PrintLast Go.Proofs.YtakmcbakogjeeaaW.PrintMore
variable {W W' : World} {b g m n : Nat} {D : Nat → Prop} {h : Hd} {kv : KV} {P : List Pc}
theorem pcs_mem : ∀ {kv : KV} {P : List Pc}, Pcs W D kv P → ∀ {k : Int} {u : Value}, (k, u) ∈ kv → ∃ bs, (k, bs) ∈ P ∧ Piece W D u bs
  | [], [], _, k, u, hm => by cases hm
  | p :: kv, q :: P, ⟨h1, h2, h3⟩, k, u, hm => by
    rcases List.mem_cons.1 hm with e | hm
    · subst e
      exact ⟨q.2, by rw [show k = q.1 from h1]; exact List.mem_cons_self, h2⟩
    · obtain ⟨bs, h4, h5⟩ := pcs_mem h3 hm
      exact ⟨bs, List.mem_cons_of_mem _ h4, h5⟩
  | [], _ :: _, h, _, _, _ => h.elim
  | _ :: _, [], h, _, _, _ => h.elim
theorem pcs_mem_back : ∀ {kv : KV} {P : List Pc}, Pcs W D kv P → ∀ {q : Pc}, q ∈ P → ∃ u, (q.1, u) ∈ kv
  | [], [], _, q, hm => by cases hm
  | p :: kv, r :: P, ⟨h1, h2, h3⟩, q, hm => by
    rcases List.mem_cons.1 hm with e | hm
    · subst e
      exact ⟨p.2, by rw [← h1]; exact List.mem_cons_self⟩
    · obtain ⟨u, h4⟩ := pcs_mem_back h3 hm
      exact ⟨u, List.mem_cons_of_mem _ h4⟩
  | [], _ :: _, h, _, _ => h.elim
  | _ :: _, [], h, _, _ => h.elim
theorem heldP_append (A B : List Pc) : heldP (A ++ B) = heldP A + heldP B := by unfold heldP; rw [List.map_append, List.sum_append]
theorem heldP_cons (p : Pc) (B : List Pc) : heldP (p :: B) = p.2.length + heldP B := by unfold heldP; rw [List.map_cons, List.sum_cons]
theorem heldP_perm {A B : List Pc} (h : A.Perm B) : heldP A = heldP B := (h.map _).sum_nat
/-- Under way: these pieces have been told. -/
def HeldRel (W : World) (m n : Nat) (kv : KV) (P : List Pc) (v : Value) (wr : World) : Prop :=
  ∃ (A B : List Pc) (left : Lit → Bool) (cnt : Nat), (A ++ B).Perm P ∧ v = .int .i64 (heldP A : Nat) ∧ wr.ranges Try.prog 3 rawElem m W.heap.size n (mapD kv) left cnt ∧ (∀ q ∈ A, left (.int .i64 q.1) = false) ∧ (∀ q ∈ B, left (.int .i64 q.1) = true) ∧ Below W.heap.size W wr
/-- One more told. -/
theorem held_step {A B : List Pc} {left : Lit → Bool} {k : Int} {bs : List Int} (hp : (A ++ B).Perm P) (hn : (P.map (·.1)).Nodup) (hA : ∀ q ∈ A, left (.int .i64 q.1) = false) (hB : ∀ q ∈ B, left (.int .i64 q.1) = true) (hm : (k, bs) ∈ P) (hl : left (.int .i64 k) = true) :
    ∃ B', ((A ++ [(k, bs)]) ++ B').Perm P ∧ heldP A + bs.length ≤ heldP P ∧ heldP (A ++ [(k, bs)]) = heldP A + bs.length ∧ (∀ q ∈ A ++ [(k, bs)], (left (.int .i64 q.1) && !(Lit.int .i64 q.1).sameKey (.int .i64 k)) = false) ∧ (∀ q ∈ B', (left (.int .i64 q.1) && !(Lit.int .i64 q.1).sameKey (.int .i64 k)) = true) := by
  have hmb : (k, bs) ∈ B := by
    rcases List.mem_append.1 (hp.mem_iff.2 hm) with h | h
    · have := hA _ h
      simp only at this
      rw [hl] at this
      cases this
    · exact h
  obtain ⟨B1, B2, rfl⟩ := List.append_of_mem hmb
  have hp2 : ((A ++ [(k, bs)]) ++ (B1 ++ B2)).Perm P := by
    refine List.Perm.trans ?_ hp
    rw [List.append_assoc]
    rw [List.singleton_append]
    exact List.Perm.append_left _ List.perm_middle.symm
  have e1 : heldP (A ++ [(k, bs)]) = heldP A + bs.length := by rw [heldP_append, heldP_cons]; simp [heldP]
  refine ⟨B1 ++ B2, hp2, ?_, e1, ?_, ?_⟩
  · rw [← heldP_perm hp2, heldP_append, e1]; omega
  · intro q hq
    rcases List.mem_append.1 hq with h | h
    · rw [hA q h, Bool.false_and]
    · rw [List.mem_singleton.1 h]
      simp only [sameKey_int, beq_self_eq_true, Bool.not_true, Bool.and_false]
  · intro q hq
    have hnd : (((A ++ [(k, bs)]) ++ (B1 ++ B2)).map (·.1)).Nodup := ((hp2.map (·.1)).nodup_iff).2 hn
    rw [List.map_append] at hnd
    have hne : q.1 ≠ k := fun e => (List.nodup_append.1 hnd).2.2 k (List.mem_map.2 ⟨(k, bs), by simp, rfl⟩) q.1 (List.mem_map.2 ⟨q, hq, rfl⟩) e.symm
    have : (q.1 == k) = false := beq_eq_false_iff_ne.mpr hne
    have hql : left (.int .i64 q.1) = true := hB q (by
      rcases List.mem_append.1 hq with h | h
      · exact List.mem_append_left _ h
      · exact List.mem_append_right _ (List.mem_cons_of_mem _ h))
    rw [hql, sameKey_int, this]
    rfl
set_option maxRecDepth 100000 in
set_option maxHeartbeats 1600000 in
theorem held_s (x : BoxAt W b g m n h kv) (hP : Pcs W D kv P) (hle : heldP P ≤ 4611686018427387903) : Calls Try.prog 21 #[.pointer (some ⟨g, 0, none⟩)] W fun e w' => e = .returned (.int .i64 (heldP P : Nat)) ∧ Below W.heap.size W w' := by
  obtain ⟨c0, c1, c2, c3, c4, c5, c6, c7⟩ := x.c
  obtain ⟨w1, hr, hR, hg, hs⟩ := rangeOf x.mp law Try.underlying42
  have HB : Aside0 (Below W.heap.size W w1) := ⟨(Below.refl _ W).grown hg (Nat.le_refl _) (fun k e => by cases e)⟩
  have HR := Aside0.mk hR
  have X := Aside0.mk x
  have PS := Aside0.mk hP
  have HUP := Aside0.mk (rising_of x.mp law)
  have HND : Aside0 ((P.map (·.1)).Nodup) := ⟨by
    rw [← pcs_keys hP]
    have hk : (kv.map (·.1)).Pairwise (fun a b => a < b) := List.pairwise_map.2 (rising_of x.mp law)
    exact hk.imp (fun h => by omega)⟩
  clear x hR hg hs c0 c1 c2 c3 c4 c5 c6 hP
  go_enter Try.func21, Try.ntmps21
  go_wp2_with (go_at_call 74; (with_reducible refine (none_s X.out).mono ?_); rintro e w' ⟨rfl, rfl⟩)
  go_loopw [3] (fun v wr => HeldRel W m n kv P v wr) (fun _ wr => wr.rangeLeft m W.heap.size)
  case atStart => exact ⟨[], P, _, _, List.Perm.refl _, rfl, HR.out, (fun q hq => by cases hq), (fun q hq => by
    obtain ⟨u, hu⟩ := pcs_mem_back PS.out hq
    rw [mapD_has]
    rw [(HUP.out).mem_get] at hu
    rw [hu]
    rfl), HB.out⟩
  case round =>
    obtain ⟨A, B, left, cnt, hpm, rfl, hrg, hA, hB, hbl⟩ := hrel
    have HPM := Aside0.mk hpm
    have HRG := Aside0.mk hrg
    have HAA := Aside0.mk hA
    have HBB := Aside0.mk hB
    have HBL := Aside0.mk hbl
    clear hpm hrg hA hB hbl
    rcases nextOf Try.underlying3 HRG.out law 0 with ⟨hc0, hl0, hrun⟩ | ⟨k, u, w2, cnt', hku, hwf, hlk, hrun, hrg2, hlt2, hg2, hs2, hen⟩
    · have hB0 : Aside0 (heldP A = heldP P) := ⟨by
        have hb : B = [] := List.eq_nil_iff_forall_not_mem.2 (fun q hq => by have := HBB.out q hq; rw [hl0] at this; cases this)
        have := heldP_perm HPM.out
        rw [hb, List.append_nil] at this
        exact this⟩
      clear hl0
      go_wp2_with fail
      go_ret
      exact ⟨by rw [hB0.out]; rfl, HBL.out⟩
    · obtain ⟨bs, hbm, hpc⟩ := pcs_mem PS.out hku
      obtain ⟨B', p1, p2, p3, p4, p5⟩ := held_step HPM.out HND.out HAA.out HBB.out hbm hlk
      obtain ⟨blk, po, pcap, rfl, q1, q2, _, _, _⟩ := hpc.cell
      have hb2 : Below W.heap.size W w2 := HBL.out.grown hg2 HBL.out.size (fun j hj => by cases hj; exact Nat.le_refl _)
      have HB2 := Aside0.mk hb2
      have HR2 := Aside0.mk hrg2
      have P1 := Aside0.mk p1
      have P3 := Aside0.mk p3
      have P4 := Aside0.mk p4
      have P5 := Aside0.mk p5
      have HLT := Aside0.mk (show cnt' < wr.rangeLeft m W.heap.size by rw [HRG.out.left_eq]; exact hlt2)
      clear hb2 hrg2 hku hlk hlt2 hg2 hs2 p1 p3 p4 p5 hpc hbm
      go_wp2_with fail
      refine ⟨⟨A ++ [(k, bs)], B', _, _, P1.out, ?_, HR2.out, P4.out, P5.out, HB2.out⟩, by rw [HR2.out.left_eq]; exact HLT.out⟩
      rw [P3.out]
      go_num
end Go.Proofs.Ytakmcbakogjeeaa.Ib
