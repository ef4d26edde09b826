/- Boxes (layer 6): where the pieces begin, in order; no condition. -/
import Derived.Test.YtakmcbakogjeeaaIb2
import Derived.Test.YtakmcbakogjeeaaIbPure2
import Derived.Sort.OwnSortedInts
set_option linter.unusedVariables false
set_option linter.unusedSimpArgs false
namespace Go.Proofs.Ytakmcbakogjeeaa.Ib
open Go Go.RowKit Go.Maps Go.Proofs.Ytakmcbakogjeeaa.Rm
open Go.Proofs.YtakmcbakogjeeaaW.PrintWords Go.Proofs.YtakmcbakogjeeaaW.PrintLast Go.Proofs.YtakmcbakogjeeaaW.PrintMore
variable {W W' : World} {b g m n : Nat} {D : Nat → Prop} {h : Hd} {kv : KV}
/-- What a map's values hold. -/
def Pcs (W : World) (D : Nat → Prop) : KV → List Pc → Prop
  | [], [] => True
  | p :: kv, q :: P => p.1 = q.1 ∧ Piece W D p.2 q.2 ∧ Pcs W D kv P
  | _, _ => False
theorem Pcs.move : ∀ {kv : KV} {P : List Pc}, Pcs W D kv P → (∀ (k : Nat) (cs : Array Value), W.heap[k]? = some (Obj.cells cs 5 (0, 0)) → W'.heap[k]? = W.heap[k]?) → Pcs W' D kv P
  | [], [], _, _ => trivial
  | p :: kv, q :: P, ⟨h1, h2, h3⟩, hm => ⟨h1, h2.move hm, h3.move hm⟩
  | [], _ :: _, h, _ => h.elim
  | _ :: _, [], h, _ => h.elim
theorem Pcs.mono {D' : Nat → Prop} (hb : ∀ k, k < W.heap.size → D' k → D k) : ∀ {kv : KV} {P : List Pc}, Pcs W D' kv P → Pcs W D kv P
  | [], [], _ => trivial
  | p :: kv, q :: P, ⟨h1, h2, h3⟩ => ⟨h1, h2.mono hb, h3.mono hb⟩
  | [], _ :: _, h => h.elim
  | _ :: _, [], h => h.elim
theorem Pcs.below {kv : KV} {P : List Pc} (h : Pcs W D kv P) (hb : Below W.heap.size W W') : Pcs W' D kv P := h.move (fun k cs hk => hb.block k (Array.getElem?_eq_some_iff.1 hk).1)
theorem Pcs.butM {kv : KV} {P : List Pc} (h : Pcs W D kv P) (hx : ButM W W' m) {n' : Nat} {kv' : KV} (hm : W.ownsMap Try.prog 3 rawElem m n' (mapD kv')) : Pcs W' D kv P :=
  h.move (fun k cs hk => hx.block k (Array.getElem?_eq_some_iff.1 hk).1 (fun e => map_ne_cells hm hk e.symm))
theorem pcs_append : ∀ {A B : KV} {P Q : List Pc}, Pcs W D A P → Pcs W D B Q → Pcs W D (A ++ B) (P ++ Q)
  | [], _, [], _, _, h => h
  | p :: A, _, q :: P, _, ⟨h1, h2, h3⟩, h => ⟨h1, h2, pcs_append h3 h⟩
  | [], _, _ :: _, _, h, _ => h.elim
  | _ :: _, _, [], _, h, _ => h.elim
theorem Pcs.length : ∀ {kv : KV} {P : List Pc}, Pcs W D kv P → kv.length = P.length
  | [], [], _ => rfl
  | p :: kv, q :: P, ⟨_, _, h3⟩ => by rw [List.length_cons, List.length_cons, h3.length]
  | [], _ :: _, h => h.elim
  | _ :: _, [], h => h.elim
theorem Pcs.get : ∀ {kv : KV} {P : List Pc} {i : Nat} {q : Pc}, Pcs W D kv P → P[i]? = some q → ∃ v, kv[i]? = some (q.1, v) ∧ Piece W D v q.2
  | [], [], i, q, _, hq => by simp at hq
  | p :: kv, r :: P, 0, q, ⟨h1, h2, _⟩, hq => by
    have e : r = q := by simpa using hq
    subst e
    exact ⟨p.2, by rw [← h1]; rfl, h2⟩
  | p :: kv, r :: P, i + 1, q, ⟨_, _, h3⟩, hq => h3.get (by simpa using hq)
  | [], _ :: _, _, _, h, _ => h.elim
  | _ :: _, [], _, _, h, _ => h.elim
/-- A store between the keys. -/
theorem put_mid {A B : KV} {k : Int} (v : Value) (hA : ∀ p ∈ A, p.1 < k) (hB : ∀ p ∈ B, k < p.1) : putL (A ++ B) k v = A ++ (k, v) :: B := by
  have hd : delL (A ++ B) k = A ++ B := by
    unfold delL
    rw [List.filter_eq_self]
    intro p hp
    rcases List.mem_append.1 hp with h | h
    · have := hA p h; simp; omega
    · have := hB p h; simp; omega
  unfold putL
  rw [hd]
  clear hd
  induction A with
  | nil =>
    cases B with
    | nil => rfl
    | cons q B => rw [List.nil_append, insL, if_pos (hB q List.mem_cons_self)]; rfl
  | cons q A ih =>
    rw [List.cons_append, insL, if_neg (by have := hA q List.mem_cons_self; simp only; omega), ih (fun p hp => hA p (List.mem_cons_of_mem _ hp))]
    rfl
/-! The keys in order. -/
theorem infoI : (Try.prog.info? 3).map (fun i => (i.zero, i.size, i.bytes)) = some (some (.int .i64 0), 1, 8) := by kernel_rfl
/-- Under way: these keys have come. -/
def KeysRel (W : World) (m n : Nat) (kv : KV) (v : Value) (wr : World) : Prop :=
  ∃ (ks : List Int) (left : Lit → Bool) (cnt : Nat), wr.ownsRow W.heap.size 3 1 v ks.length (ks.map (Value.int .i64)) ∧ wr.ranges Try.prog 3 rawElem m W.heap.size n (mapD kv) left cnt ∧ ks.Nodup ∧ (∀ k ∈ ks, (∃ u, (k, u) ∈ kv) ∧ left (.int .i64 k) = false) ∧ (∀ k, (∃ u, (k, u) ∈ kv) → k ∈ ks ∨ left (.int .i64 k) = true) ∧ Below W.heap.size W wr ∧ ks.length + cnt ≤ kv.length
theorem keys_end {ks : List Int} (hr : Rising kv) (hn : ks.Nodup) (h1 : ∀ k ∈ ks, ∃ u, (k, u) ∈ kv) (h2 : ∀ k, (∃ u, (k, u) ∈ kv) → k ∈ ks) : ks.mergeSort (fun x y => decide (x ≤ y)) = kv.map (·.1) ∧ ks.length = kv.length := by
  have hk : (kv.map (·.1)).Pairwise (fun a b => a < b) := List.pairwise_map.2 hr
  have hnd : (kv.map (·.1)).Nodup := hk.imp (fun h => by omega)
  have hp : ks.Perm (kv.map (·.1)) := (List.perm_ext_iff_of_nodup hn hnd).2 (fun k => by
    rw [List.mem_map]
    constructor
    · intro h
      obtain ⟨u, hu⟩ := h1 k h
      exact ⟨(k, u), hu, rfl⟩
    · rintro ⟨⟨k', u⟩, hu, rfl⟩
      exact h2 _ ⟨u, hu⟩)
  have hs : (ks.mergeSort (fun x y => decide (x ≤ y))).Pairwise (fun a b => decide (a ≤ b) = true) := List.pairwise_mergeSort (fun a b c h1 h2 => by simp at *; omega) (fun a b => by simp; omega) ks
  refine ⟨?_, by have := hp.length_eq; rwa [List.length_map] at this⟩
  refine List.Perm.eq_of_pairwise (le := fun a b => a ≤ b) (fun a b _ _ h1 h2 => by omega) (hs.imp (fun h => by simpa using h)) (hk.imp (fun h => by omega)) ((List.mergeSort_perm ks _).trans hp)
theorem sort_own {base c : Nat} {A : Option Addr} {ks : List Int} (ho : W.ownsRow base 3 1 (.slice A ks.length c) ks.length (ks.map (Value.int .i64))) (hb : base ≤ W.heap.size) (hl : ks.length ≤ 1048576) :
    Calls Try.prog 116 #[.slice A ks.length c] W fun e w' => e = .returned (.tuple #[]) ∧ w'.ownsRow base 3 1 (.slice A ks.length c) ks.length ((ks.mergeSort (fun x y => decide (x ≤ y))).map (Value.int .i64)) ∧ Below base W w' := by
  rcases ho.2 with ⟨hv, h0⟩ | ⟨g', c', cur, hv, hbb, hg, hnc, hcm, hcs, hx⟩
  · have hk : ks = [] := List.eq_nil_of_length_eq_zero h0
    subst hk
    refine (Try.slices_Sort_int_none A c W).mono ?_
    rintro e w' ⟨rfl, rfl⟩
    exact ⟨rfl, by simpa using ho, Below.refl _ _⟩
  · injection hv with hv1 _ hv2
    subst hv1; subst hv2
    rw [Nat.mul_one] at hx
    refine (Try.slices_Sort_int g' 0 c ks W (holds_of_blockI hg hx) (Array.getElem?_eq_some_iff.1 hg).1 (by omega)).mono ?_
    rintro e w' ⟨rfl, k, os, rfl⟩
    have hgr := grownBy_sortedI (w := W) (g := g') (n := k) (os := os) (ks.mergeSort (fun x y => decide (x ≤ y))).toArray
    exact ⟨rfl, ownsRow_sortedI (List.length_mergeSort ks) hbb hg hnc hcm hcs, (Below.refl base W).grown hgr hb (fun j hj => by cases hj; exact hbb)⟩
set_option maxHeartbeats 1600000 in
theorem starts_s (x : BoxAt W b g m n h kv) (hn : kv.length ≤ 1048576) : Calls Try.prog 78 #[.pointer (some ⟨g, 0, none⟩)] W fun e w' => ∃ A c, e = .returned (.slice A kv.length c) ∧ w'.ownsRow W.heap.size 3 1 (.slice A kv.length c) kv.length (kv.map (fun p => .int .i64 p.1)) ∧ Below W.heap.size W w' := by
  obtain ⟨c0, c1, c2, c3, c4, c5, c6, c7⟩ := x.c
  obtain ⟨w1, hr, hR, hg, hs⟩ := rangeOf x.mp law Try.underlying42
  have HB : Aside0 (Below W.heap.size W w1) := ⟨(Below.refl _ W).grown hg (Nat.le_refl _) (fun k e => by cases e)⟩
  have HR := Aside0.mk hR
  have CS := Aside0.mk (fun w => Try.slices_Sort_int_none none 0 w)
  have X := Aside0.mk x
  have HUP := Aside0.mk (rising_of x.mp law)
  have HG := Aside0.mk hg
  clear x hR hg hs c0 c1 c2 c3 c4 c5 c6
  go_enter Try.func78, Try.ntmps78
  go_wp2_with fail
  go_loopw [3] (fun v wr => KeysRel W m n kv v wr) (fun _ wr => wr.rangeLeft m W.heap.size)
  case atStart => exact ⟨[], _, _, World.ownsRow_nil _ _ _ _, HR.out, List.nodup_nil, (fun k hk => by cases hk), (fun k ⟨u, hu⟩ => .inr (by
    rw [mapD_has]
    rw [(HUP.out).mem_get] at hu
    rw [hu]
    rfl)), HB.out, by simp⟩
  case round =>
    obtain ⟨ks, left, cnt, hown, hrg, hnd, hin, hall, hbl, hcnt⟩ := hrel
    have HO := Aside0.mk hown
    have HRG := Aside0.mk hrg
    have HND := Aside0.mk hnd
    have HIN := Aside0.mk hin
    have HALL := Aside0.mk hall
    have HBL := Aside0.mk hbl
    clear hown hrg hnd hin hall hbl
    rcases nextOf Try.underlying3 HRG.out law 0 with ⟨hc0, hl0, hrun⟩ | ⟨k, u, w2, cnt', hku, hwf, hlk, hrun, hrg2, hlt2, hg2, hs2, hen⟩
    · obtain ⟨A, c, hv, hn1⟩ : ∃ A c, u3 = .slice A ks.length c ∧ ks.length ≤ c := by
        rcases HO.out.2 with ⟨hv, h0⟩ | ⟨g', c, cur, hv, hb', hgg, hnc, _⟩
        · exact ⟨none, 0, by rw [hv, h0], by omega⟩
        · exact ⟨_, c, hv, hnc⟩
      subst hv
      obtain ⟨hms, hkl⟩ := keys_end HUP.out HND.out (fun k hk => (HIN.out k hk).1) (fun k hk => (HALL.out k hk).resolve_right (by rw [hl0]; simp))
      have HKL := Aside0.mk hkl
      have CSO := Aside0.mk (sort_own HO.out HBL.out.size (by omega))
      rw [hms] at CSO
      clear hms hl0 hkl
      go_wp2_with (go_at_call 116; (refine CSO.out.mono ?_); rintro e w3 ⟨rfl, ho, hb⟩; have HO3 := Aside0.mk ho; have HB3 := Aside0.mk hb; clear ho hb)
      go_ret
      have ho := HO3.out
      rw [HKL.out, List.map_map] at ho
      exact ⟨A, c, by rw [← HKL.out]; rfl, ho, HBL.out.trans HB3.out⟩
    · obtain ⟨A, c, hv, hn1⟩ : ∃ A c, u3 = .slice A ks.length c ∧ ks.length ≤ c := by
        rcases HO.out.2 with ⟨hv, h0⟩ | ⟨g', c, cur, hv, hb', hgg, hnc, _⟩
        · exact ⟨none, 0, by rw [hv, h0], by omega⟩
        · exact ⟨_, c, hv, hnc⟩
      subst hv
      have ho2 : w2.ownsRow W.heap.size 3 1 (.slice A ks.length c) ks.length (ks.map (Value.int .i64)) := by
        refine ⟨HO.out.1, ?_⟩
        rcases HO.out.2 with h0 | ⟨g', c', cur, hv, hb', hgg, r⟩
        · exact .inl h0
        · refine .inr ⟨g', c', cur, hv, hb', (hg2.block g' (Array.getElem?_eq_some_iff.1 hgg).1 (fun e => ?_)).trans hgg, r⟩
          injection e with e
          subst e
          obtain ⟨es, clock, since, seen, c0, _, _, _, _, hr, _⟩ := HRG.out
          rw [hgg] at hr
          cases hr
      have hb2 : Below W.heap.size W w2 := HBL.out.grown hg2 HBL.out.size (fun j hj => by cases hj; exact Nat.le_refl _)
      have hkn : k ∉ ks := fun hm => by have := (HIN.out k hm).2; rw [hlk] at this; cases this
      have HO2 := Aside0.mk ho2
      have HB2 := Aside0.mk hb2
      have HR2 := Aside0.mk hrg2
      have HKN := Aside0.mk hkn
      have HKU := Aside0.mk hku
      have HLK := Aside0.mk hlk
      have HLT := Aside0.mk (show cnt' < wr.rangeLeft m W.heap.size by rw [HRG.out.left_eq]; exact hlt2)
      have hkl : ks.length + cnt' < kv.length := by omega
      clear ho2 hb2 hrg2 hkn hku hlk hlt2 hg2 hs2
      obtain ⟨i0, hi, hz0, hz1, hz2⟩ := info_parts infoI
      go_wp2_with (at_builtin; refine wpList_append_own_at _ rfl _ _ 34 rfl W.heap.size 3 i0 _ 1 8 Try.underlying34 hi hz0 hz1 hz2 rfl (by decide) (.slice A ks.length c) ks.length (ks.map (Value.int .i64)) rfl (HO2.out.alloc _) ⟨w2.heap.size, 0, none⟩ 1 1 [.int .i64 k] rfl rfl (cell_one_new _ _ _) (fun u hu => by rw [List.mem_singleton.1 hu]; rfl) (by unfold maxLen; omega) (by omega) (by have := HB2.out.size; simp; omega) ?_; intro v3 w3 h1 h2 _ h4; have HO3 := Aside0.mk h1; have HG3 := Aside0.mk h2; clear h1 h2 h4)
      have HNE : Aside0 (some m ≠ (Value.slice A ks.length c).ownBlock ∧ some W.heap.size ≠ (Value.slice A ks.length c).ownBlock) := ⟨by
        rcases HO2.out.2 with ⟨hv, h0⟩ | ⟨g', c', cur, hv, hb', hgg, r⟩
        · rw [hv]; simp [Value.ownBlock]
        · rw [hv]
          obtain ⟨es, clock, since, seen, c0, hbm, _, _, _, hr, _⟩ := HR2.out
          constructor
          · intro e
            injection e with e
            rw [e] at hbm
            have hgg' : w2.heap[g']? = some (.cells cur 3 (0, 0)) := hgg
            simp only at hbm
            rw [hgg'] at hbm
            cases hbm
          · intro e
            injection e with e
            rw [e] at hr
            have hgg' : w2.heap[g']? = some (.cells cur 3 (0, 0)) := hgg
            simp only at hr
            rw [hgg'] at hr
            cases hr⟩
      have hR3 := (HR2.out.alloc (.cells #[.int .i64 k] 3)).kept HG3.out HNE.out.1 HNE.out.2
      refine ⟨⟨ks ++ [k], _, _, ?_, hR3, ?_, ?_, ?_, ?_, ?_⟩, by rw [hR3.left_eq]; exact HLT.out⟩
      · rw [List.length_append, List.length_singleton, List.map_append]
        exact HO3.out
      · exact List.nodup_append.2 ⟨HND.out, by simp, fun a ha b hb => by rw [List.mem_singleton.1 hb]; rintro rfl; exact HKN.out ha⟩
      · intro j hj
        rcases List.mem_append.1 hj with h | h
        · refine ⟨(HIN.out j h).1, ?_⟩
          rw [(HIN.out j h).2, Bool.false_and]
        · rw [List.mem_singleton.1 h]
          refine ⟨⟨u, HKU.out⟩, ?_⟩
          simp only [sameKey_int, beq_self_eq_true, Bool.not_true, Bool.and_false]
      · intro j hj
        by_cases hjk : j = k
        · left; rw [hjk]; simp
        · rcases HALL.out j hj with h | h
          · left; exact List.mem_append_left _ h
          · right
            have : (j == k) = false := beq_eq_false_iff_ne.mpr hjk
            simp only [sameKey_int, h, this, Bool.not_false, Bool.and_self]
      · have hba : Below W.heap.size W (w2.alloc (.cells #[.int .i64 k] 3)) := HB2.out.alloc HB2.out.size _
        exact hba.grown HG3.out (by have := HB2.out.size; simp; omega) (fun j hj => by
          rcases HO2.out.2 with ⟨hv, h0⟩ | ⟨g', c', cur, hv, hb', hgg, r⟩
          · rw [hv] at hj; simp [Value.ownBlock] at hj
          · rw [hv] at hj; cases hj; exact hb')
      · rw [List.length_append, List.length_singleton]; omega
end Go.Proofs.Ytakmcbakogjeeaa.Ib
