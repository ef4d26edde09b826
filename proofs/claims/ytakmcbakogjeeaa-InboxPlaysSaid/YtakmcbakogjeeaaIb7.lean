/- Boxes (layer 6): Ready; no condition. -/
import Derived.Test.YtakmcbakogjeeaaIb6
set_option linter.unusedVariables false
set_option linter.unusedSimpArgs false
namespace Go.Proofs.Ytakmcbakogjeeaa.Ib
open Go Go.RowKit Go.Maps Go.Proofs.Ytakmcbakogjeeaa.Rm
open Go.Proofs.YtakmcbakogjeeaaW.PrintWords Go.Proofs.YtakmcbakogjeeaaW.PrintLast Go.Proofs.YtakmcbakogjeeaaW.PrintMore
variable {W W' : World} {b g m n : Nat} {D : Nat → Prop} {h : Hd} {kv : KV} {P : List Pc}
/-- Look-ups behind smaller keys. -/
theorem getL_behind : ∀ (A : KV) (B : KV) (k : Int), (∀ p ∈ A, p.1 < k) → getL (A ++ B) k = getL B k
  | [], B, k, _ => rfl
  | p :: A, B, k, h => by
    rw [List.cons_append, getL_cons, if_neg (by have := h p List.mem_cons_self; omega)]
    exact getL_behind A B k (fun q hq => h q (List.mem_cons_of_mem _ hq))
/-- A round of Ready. -/
def RdyR (W : World) (b : Nat) (kv : KV) (P : List Pc) (pl : Int) (at' pc th : Value) (W' : World) : Prop :=
  W' = W ∧ ∃ (A B : KV) (Q : List Pc) (a : Int), kv = A ++ B ∧ at' = .int .i64 a ∧ Pcs W D B Q ∧ OkP a Q ∧ (∀ p ∈ A, p.1 < a) ∧ pl ≤ a ∧ a ≤ 4611686018427387903 ∧ (∀ q ∈ Q, q.1 + q.2.length ≤ 4611686018427387903) ∧ a + readyP a Q = pl + readyP pl P ∧ pc = (getL B a).getD (.slice none 0 0) ∧ th = .bool (getL B a).isSome
set_option maxRecDepth 100000 in
set_option maxHeartbeats 3200000 in
theorem ready_s (x : BoxAt W b g m n h kv) (hP : Pcs W D kv P) (hok : OkP h.place P) (h0 : 0 ≤ h.place) (hpl : h.place ≤ 4611686018427387903) (hends : ∀ p ∈ P, p.1 + p.2.length ≤ 4611686018427387903) :
    Calls Try.prog 24 #[.pointer (some ⟨g, 0, none⟩)] W fun e w' => e = .returned (.int .i64 (readyP h.place P)) ∧ W = w' := by
  obtain ⟨c0, c1, c2, c3, c4, c5, c6, c7⟩ := x.c
  have X := Aside0.mk x
  have PS := Aside0.mk hP
  have HOK := Aside0.mk hok
  have HEN := Aside0.mk hends
  have hlk := look_at X.out.mp (k := h.place) (wf_of h0 (by omega))
  clear x hP hok hends
  go_enter Try.func24, Try.ntmps24
  go_wp2_with (go_at_call 74; refine (none_s X.out).mono ?_; rintro e w' ⟨rfl, rfl⟩)
  go_loopw [3, 4, 5] (fun a v t W' => RdyR W b kv P h.place a v t W') (fun a _ _ _ => (4611686018427387903 - intOf a).toNat)
  case atStart => exact ⟨rfl, [], kv, P, h.place, rfl, rfl, PS.out, HOK.out, (fun p hp => by cases hp), Int.le_refl _, hpl, HEN.out, rfl, rfl, rfl⟩
  case round =>
    obtain ⟨rfl, A, B, Q, a, hkv, rfl, hB, hQ, hA, ha0, ha1, hen, hsum, rfl, rfl⟩ := hrel
    have HKV := Aside0.mk hkv
    have HA := Aside0.mk hA
    have HS := Aside0.mk hsum
    have HE := Aside0.mk hen
    rcases get_head hB hQ with ⟨h1, h2, _⟩ | ⟨v, bs, B', r, rfl, rfl, hp, hB', hg⟩
    · rw [h1]
      have H2 := Aside0.mk h2
      clear h1 h2 hkv hB hQ hA hsum hen
      go_wp2_with fail
      go_ret
      refine ⟨?_, rfl⟩
      have := HS.out
      rw [H2.out] at this
      go_num
    · rw [hg]
      obtain ⟨blk, po, pc, rfl, hpc1, hpc2, _, _, _⟩ := hp.cell
      obtain ⟨o1, o2, o3⟩ := hQ
      have HB := Aside0.mk hB'
      have HO := Aside0.mk o3
      have hl : 0 < bs.length := List.length_pos_iff.2 o2
      have hle := hen _ List.mem_cons_self
      simp only at hle
      have hlk2 := look_at X.out.mp (k := a + bs.length) (wf_of (by omega) (by omega))
      have hgl : getL kv (a + bs.length) = getL B' (a + bs.length) := by
        rw [HKV.out, show A ++ (a, Value.slice (some ⟨blk, po, none⟩) bs.length pc) :: B' = (A ++ [(a, Value.slice (some ⟨blk, po, none⟩) bs.length pc)]) ++ B' by simp]
        exact getL_behind _ _ _ (fun p hp => by
          rcases List.mem_append.1 hp with h | h
          · have := HA.out p h; omega
          · rw [List.mem_singleton.1 h]; simp only; omega)
      rw [hgl] at hlk2
      have HSS : Aside0 (a + bs.length + (readyP (a + bs.length) r : Int) = h.place + readyP h.place P) := ⟨by have := HS.out; rw [readyP, if_pos rfl] at this; simp only at this; push_cast at this; omega⟩
      clear hkv hA hsum hen hB' o3 o2 o1 hp hg hB hgl
      go_wp2_with fail
      go_roundw
      case rel =>
        exact ⟨rfl, A ++ [(a, Value.slice (some ⟨blk, po, none⟩) bs.length pc)], B', r, a + bs.length, by rw [HKV.out]; simp, by go_num, HB.out, HO.out, (fun p hp => by
          rcases List.mem_append.1 hp with h | h
          · have := HA.out p h; omega
          · rw [List.mem_singleton.1 h]; simp only; omega), by omega, by omega, fun q hq => HE.out q (List.mem_cons_of_mem _ hq), HSS.out, rfl, rfl⟩
      case measure => simp [intOf]; omega
end Go.Proofs.Ytakmcbakogjeeaa.Ib
