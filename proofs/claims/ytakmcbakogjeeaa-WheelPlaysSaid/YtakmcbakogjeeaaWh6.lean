/- Wheels (layer 25): place onto a rim; no condition. -/
import Derived.Test.YtakmcbakogjeeaaWh5
import Derived.Test.YtakmcbakogjeeaaWhBits
set_option linter.unusedVariables false
set_option linter.unusedSimpArgs false
namespace Go.Proofs.Ytakmcbakogjeeaa.Wh
open Go Go.RowKit Go.Maps Go.Proofs.Ytakmcbakogjeeaa.Rm Go.Proofs.Ytakmcbakogjeeaa.Rw
open Go.Proofs.YtakmcbakogjeeaaW.PrintWords Go.Proofs.YtakmcbakogjeeaaW.PrintLast Go.Proofs.YtakmcbakogjeeaaW.PrintMore
variable {W W' W2 : World} {b p m n : Nat} {now : Int} {kv : KV} {R : List Row} {x x' : Row} {F F' F2 : Nat → Prop}
set_option maxRecDepth 100000 in
set_option maxHeartbeats 1600000 in
theorem place_rim (h : WhAt W b p m n now kv R) (hbw : b ≤ W.heap.size) {k a : Int} (ha0 : 0 ≤ a) (ha1 : a ≤ 1125899906842624) (hn0 : 0 ≤ now) (hn1 : now ≤ 1125899906842624) (hl : ∀ x ∈ R, x.2.length + 1 ≤ 1099511627776) (ha : now < a) :
    Calls Try.prog 83 #[.pointer (some ⟨p, 0, none⟩), .agg #[.int .i64 k, .int .i64 a]] W fun e w' => e = .returned (.tuple #[]) ∧ ∃ (r : Nat) (x : Row) (v1 : Value), r < 9 ∧ R[spot r a]? = some x ∧ WhAt w' b p m n now kv (R.set (spot r a) (v1, x.2 ++ [(k, a)])) ∧ Lf W w' b (foot p m R) (foot p m (R.set (spot r a) (v1, x.2 ++ [(k, a)]))) := by
  obtain ⟨nb, hnb⟩ : ∃ nb, W.heap.size = nb := ⟨_, rfl⟩
  have HB1 := Aside0.mk (below_alloc (Below.refl _ W) (.cells #[.int .i64 k, .int .i64 a] 160 (0, 0)))
  have hnw := heap_alloc_new W (.cells #[.int .i64 k, .int .i64 a] 160 (0, 0))
  have HP := Aside0.mk (h.below HB1.out)
  go_enter Try.func83, Try.ntmps83
  go_upto_region 1 with fail
  rw [hnb] at hnw
  generalize hW1 : W.alloc (.cells #[.int .i64 k, .int .i64 a] 160 (0, 0)) = W1 at *
  have hsz : b ≤ W1.heap.size := Nat.le_trans hbw HB1.out.size
  have c1 := HP.out.c.2.1
  have b0 : W1.cell? ⟨nb, 0, none⟩ = some (.int .i64 k) ∧ W1.cell? ⟨nb, 1, none⟩ = some (.int .i64 a) := by
    refine ⟨?_, ?_⟩ <;> (rw [cell_of_row _ _ _ _ _ _ hnw]; rfl)
  obtain ⟨b0, b1⟩ := b0
  clear h
  go_quiet (fail)
  go_wp2
  go_quiet (fail)
  go_wp2
  go_loopw [4, 5] (fun rv dv W' => ∃ (r : Nat) (d : Int) (j : Nat), rv = .int .i64 r ∧ dv = .int .i64 d ∧ r ≤ 8 ∧ 0 ≤ d ∧ d * 64 ^ r ≤ 35184372088831 ∧ W' = W1.drewN j) (fun rv _ _ => 9 - (intOf rv).toNat)
  case atStart =>
    obtain ⟨q0, q1⟩ := xor_lt a now ha0 ha1 hn0 hn1
    exact ⟨0, _, _, rfl, rfl, by omega, by omega, by simp; omega, World.drewN_drewN _ _ _⟩
  case round =>
    obtain ⟨r, d, j, rfl, rfl, hr, hd, hb, rfl⟩ := hrel
    by_cases hd0 : 0 < d
    · have HN := Aside0.mk (sh_next hd hb)
      have HL := sh_lt hd0 hb
      go_wp2
      exact ⟨⟨r + 1, _, _, by simp, rfl, by omega, HN.out.1, HN.out.2, rfl⟩, by simp [intOf]; omega⟩
    · have e1 : IntKind.i64.wrap (6 * (r : Int)) = 6 * r := by rw [IntKind.wrap_i64]; omega
      obtain ⟨s, e2, hs, hsp⟩ := spot_s r a ha0 ha1
      have hr1 : (r : Int) < 9 := by omega
      have hr2 : ¬ (r : Int) < 0 := by omega
      have hs1 : (s : Int) < 64 := by omega
      have hs2 : ¬ (s : Int) < 0 := by omega
      obtain ⟨x, hj, hrow⟩ := HP.out.get (j := r * 64 + s) (by omega)
      have hx := List.mem_of_getElem? hj
      obtain ⟨G, c, w1, hap, g3, g4, hR⟩ := HP.out.add hsz hj (hl x hx) (k, a)
      obtain ⟨G0, c0, hv0⟩ := hrow.val
      have HR := Aside0.mk hR
      have cr := HP.out.cr hj
      have hpl := (HP.out.foot_ty (.inl rfl)).1
      have hnl : nb < W1.heap.size := (Array.getElem?_eq_some_iff.1 hnw).1
      have kp : ∀ nd j, j < W1.heap.size → ((W1.drewN nd).alloc (.cells #[.int .i64 k, .int .i64 a] 160)).heap[j]? = W1.heap[j]? := fun nd j hj => (Below.heap_alloc (W1.drewN nd) _ j (by simpa using hj)).trans (by simp)
      have n0 := fun nd => (World.cell?_of_block (a := ⟨nb, 0, none⟩) (kp nd nb hnl)).trans b0
      have n1 := fun nd => (World.cell?_of_block (a := ⟨nb, 1, none⟩) (kp nd nb hnl)).trans b1
      have n3 := fun nd => (World.cell?_of_block (a := ⟨p, 2 + (r * 64 + s), none⟩) (kp nd p hpl)).trans cr
      simp only [← Nat.add_assoc] at g3 g4 cr n3
      rw [hv0] at hap g3 cr n3
      have hap2 : ∀ nd ty, (Builtin.append_ #[69, 69] ty #[.slice G0 x.2.length c0, .slice (some ⟨W1.heap.size, 0, none⟩) 1 1]).run Try.prog ((W1.drewN (nd + 1)).alloc (.cells #[.int .i64 k, .int .i64 a] 160)) = .ok (.slice (G nd) (x.2.length + 1) (c nd)) (w1 nd) := hap
      have HJ := Aside0.mk (And.intro hj hsp)
      clear hb hR hap hj hx hpl hnl kp hrow hl hsp
      go_wp2
      go_quiet (fail)
      rw [World.drewN_drewN]
      go_wp2
      go_region_law (first | (refine wp_app rfl rfl rfl (hap2 _) ?_))
      all_goals go_wp2_with fail
      all_goals go_end0
      all_goals exact ⟨rfl, r, x, _, by omega, by rw [HJ.out.2]; exact HJ.out.1, by rw [HJ.out.2]; exact (by simpa only [← Nat.add_assoc] using (HR.out _).1), by rw [HJ.out.2]; exact (Lf.of_below HB1.out hbw _).trans (by simpa only [← Nat.add_assoc] using (HR.out _).2)⟩
end Go.Proofs.Ytakmcbakogjeeaa.Wh
