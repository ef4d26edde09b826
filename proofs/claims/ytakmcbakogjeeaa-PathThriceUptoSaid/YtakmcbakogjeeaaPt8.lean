/- Paths (layer 24): Answer; no condition. -/
import Derived.Test.YtakmcbakogjeeaaPt7
set_option linter.unusedVariables false
set_option linter.unusedSimpArgs false
namespace Go.Proofs.Ytakmcbakogjeeaa.Pt
open Go Go.RowKit Go.Maps Go.Proofs.Ytakmcbakogjeeaa.Rm
open Go.Proofs.YtakmcbakogjeeaaW.PrintWords Go.Proofs.YtakmcbakogjeeaaW.PrintLast Go.Proofs.YtakmcbakogjeeaaW.PrintMore
variable {W W' : World} {b p m n : Nat} {used : Int} {K A B : List Ent} {x x' : Ent}
/-- A path that is known to be the peer's now. -/
def Ent.known (x : Ent) : Ent := { x with valid := true, v := .slice none 0 0, op := [] }
theorem PtAt.know (h : PtAt W b p m n used (A ++ x :: B)) (hbw : b ≤ W.heap.size) : PtAt ((W.setCell ⟨x.g, 0, none⟩ (.bool true)).setCell ⟨x.g, 3, none⟩ (.slice none 0 0)) b p m n used (A ++ x.known :: B) ∧ Lf W ((W.setCell ⟨x.g, 0, none⟩ (.bool true)).setCell ⟨x.g, 3, none⟩ (.slice none 0 0)) b := by
  have hx := h.one x (by simp)
  obtain ⟨h1, h2⟩ := h.set 0 (.bool true) { x with valid := true } rfl rfl rfl rfl rfl hx.c0 hx.c1 hx.s0 hx.s1
  obtain ⟨h3, h4, _⟩ := h1.row (Nat.le_trans hbw h2.bel.size) (v1 := .slice none 0 0) (op1 := []) ⟨rfl, rfl, rfl, Nat.le_refl _, fun _ _ _ => rfl⟩ (World.ownsRow_nil _ _ _ _) (.inr (.inl rfl)) (fun o ho => by cases ho)
  exact ⟨h3, h2.trans h4⟩
theorem row_cell1 {e : TypeId} {g c N : Nat} {us : List Value} (h : W.ownsRow b e 1 (.slice (some ⟨g, 0, none⟩) N c) N us) {j : Nat} {v : Value} (hj : us[j]? = some v) : W.cell? ⟨g, j, none⟩ = some v := by
  rcases h.2 with ⟨h0, h1⟩ | ⟨g', cap', cur, h1, _, hb, _, _, _, ht⟩
  · injection h0 with h0 _ _
    cases h0
  · injection h1 with h1 h2 h3
    injection h1 with h1
    injection h1 with h1
    subst h1
    have hjl : j < N := by have := (List.getElem?_eq_some_iff.1 hj).1; have := h.1; omega
    rw [cell_of_row W g _ _ _ _ hb, ← hj, ← ht, List.getElem?_take, if_pos (by omega)]
    simp
theorem shape1 {e : TypeId} {v : Value} {N : Nat} {us : List Value} (h : W.ownsRow b e 1 v N us) (hn : 0 < N) : ∃ g c, v = .slice (some ⟨g, 0, none⟩) N c := by
  rcases h.2 with ⟨h1, h2⟩ | ⟨g', cap', cur, h1, _⟩
  · omega
  · exact ⟨_, _, h1⟩
def AnsR (W W1 : World) (b p m n : Nat) (used : Int) (K : List Ent) (D : List Int) (e : Ending) (w' : World) : Prop :=
  (e = .returned (.tuple #[.int .i64 0, .bool false]) ∧ (∀ x ∈ K, hits D x.op = false) ∧ PtAt w' b p m n used K ∧ Lf W w' b) ∨
  ∃ A x B, K = A ++ x :: B ∧ (∀ y ∈ A, hits D y.op = false) ∧ hits D x.op = true ∧ e = .returned (.tuple #[.int .i64 x.a, .bool true]) ∧ PtAt w' b p m n used (A ++ x.known :: B) ∧ Lf W w' b
set_option maxRecDepth 100000 in
set_option maxHeartbeats 1600000 in
theorem answer_s (h : PtAt W b p m n used K) (hbw : b ≤ W.heap.size) (hwf : ∀ x ∈ K, (Lit.int .i64 x.a).wf = true) (hKl : K.length ≤ 1000000) (hne : 0 < K.length) (hops : ∀ x ∈ K, x.op.length ≤ 1099511627776) (d0 d1 d2 d3 d4 d5 d6 d7 : Int) :
    Calls Try.prog 51 #[.pointer (some ⟨p, 0, none⟩), .agg #[.int .u8 d0, .int .u8 d1, .int .u8 d2, .int .u8 d3, .int .u8 d4, .int .u8 d5, .int .u8 d6, .int .u8 d7]] W fun e w' => AnsR W W b p m n used K [d0, d1, d2, d3, d4, d5, d6, d7] e w' := by
  have HB1 := Aside0.mk (below_alloc (Below.refl _ W) (.cells #[.int .u8 d0, .int .u8 d1, .int .u8 d2, .int .u8 d3, .int .u8 d4, .int .u8 d5, .int .u8 d6, .int .u8 d7] 96 (0, 0)))
  have hnw := heap_alloc_new W (.cells #[.int .u8 d0, .int .u8 d1, .int .u8 d2, .int .u8 d3, .int .u8 d4, .int .u8 d5, .int .u8 d6, .int .u8 d7] 96 (0, 0))
  have HP := Aside0.mk (h.below HB1.out)
  obtain ⟨nb, hnb⟩ : ∃ nb, W.heap.size = nb := ⟨_, rfl⟩
  have HWF := Aside0.mk hwf
  have HOP := Aside0.mk hops
  clear h hwf hops
  go_enter Try.func51, Try.ntmps51
  go_upto_region 1 with fail
  rw [hnb] at hnw
  generalize hW1 : W.alloc (.cells #[.int .u8 d0, .int .u8 d1, .int .u8 d2, .int .u8 d3, .int .u8 d4, .int .u8 d5, .int .u8 d6, .int .u8 d7] 96 (0, 0)) = W1 at *
  have HNW := Aside0.mk hnw
  clear hW1 hnw
  go_wp2_with (first
    | (go_at_call 95; (with_reducible refine (none_p HP.out).mono ?_); rintro e w' ⟨rfl, rfl⟩)
    | (go_at_call 96; (with_reducible refine (addrs_s HP.out (by unfold maxLen; omega) (by omega)).mono ?_); rintro e w2 ⟨av, rfl, ho, hb⟩; obtain ⟨ga, ca, rfl⟩ := shape1 ho hne; have HO := Aside0.mk ho; have HB2 := Aside0.mk hb; clear ho hb))
  have HB0 := Aside0.mk (HB1.out.trans (HB2.out.mono (by have := HB1.out.size; omega)))
  have HP2 := Aside0.mk (HP.out.below HB2.out)
  have HNW2 := Aside0.mk ((HB2.out.block nb (Array.getElem?_eq_some_iff.1 HNW.out).1).trans HNW.out)
  obtain ⟨Dl, hDl⟩ : ∃ Dl, [d0, d1, d2, d3, d4, d5, d6, d7] = Dl := ⟨_, rfl⟩
  have HDL := Aside0.mk hDl
  clear hDl HP HNW HB1 HB2
  go_loopw [14] (fun iv W' => ∃ j : Nat, j ≤ K.length ∧ iv = .int .i64 j ∧ (∀ y ∈ K.take j, hits Dl y.op = false) ∧ Below w2.heap.size w2 W') (fun iv _ => K.length - (intOf iv).toNat)
  case atStart => exact ⟨0, by omega, rfl, (fun y hy => by cases hy), Below.refl _ _⟩
  case round =>
    obtain ⟨j, hj, rfl, hall, hB⟩ := hrel
    have HA := Aside0.mk hall
    have HB := Aside0.mk hB
    clear hall hB
    by_cases hlt : j < K.length
    · obtain ⟨x, hx⟩ : ∃ x, K[j]? = some x := ⟨_, List.getElem?_eq_getElem hlt⟩
      have hxm := List.mem_of_getElem? hx
      have hwx := HWF.out x hxm
      have HPr := Aside0.mk (HP2.out.below HB.out)
      have c0 := HPr.out.c.1
      have hl := look HPr.out.mp hwx
      rw [get_of HPr.out.keys hxm] at hl
      have ho := HPr.out.one x hxm
      obtain ⟨q0, q1, q2, q3⟩ := ho.c
      have ca := row_cell1 (own_move HO.out (fun k hk => HB.out.block k (by
        obtain ⟨cs, hc⟩ := own_typed HO.out k hk
        exact (Array.getElem?_eq_some_iff.1 hc).1))) (j := j) (v := .int .i64 x.a) (by rw [List.getElem?_map, List.getElem?_map, hx]; rfl)
      have CH := Aside0.mk (has_s ho.row ho.ok (HOP.out x hxm) nb d0 d1 d2 d3 d4 d5 d6 d7 ((HB.out.block nb (Array.getElem?_eq_some_iff.1 HNW2.out).1).trans HNW2.out))
      obtain ⟨rb, hrb⟩ : ∃ rb, hits [d0, d1, d2, d3, d4, d5, d6, d7] x.op = rb := ⟨_, rfl⟩
      rw [hrb] at CH
      have HRB := Aside0.mk hrb
      have HX := Aside0.mk hx
      clear hx hxm hwx ho hrb
      cases rb with
      | true =>
        go_wp2_with (go_at_call 97; (with_reducible refine CH.out.mono ?_); rintro e w3 ⟨rfl, hb⟩; have HP3 := Aside0.mk (HPr.out.below hb); obtain ⟨n0, n1, n2, n3⟩ := (HP3.out.one x (List.mem_of_getElem? HX.out)).c; have f0 := (HP3.out.one x (List.mem_of_getElem? HX.out)).free 0; have f3 := (HP3.out.one x (List.mem_of_getElem? HX.out)).free 3; have HB3 := Aside0.mk hb; clear hb)
        go_ret2
        have hlt' : j < K.length := hlt
        have hKs : K = K.take j ++ x :: K.drop (j + 1) := by
          obtain ⟨_, hxe⟩ := List.getElem?_eq_some_iff.1 HX.out
          rw [← hxe, ← List.drop_eq_getElem_cons hlt', List.take_append_drop]
        have hbr := HB0.out.trans (HB.out.mono HB0.out.size)
        have hbr3 := hbr.trans (HB3.out.mono hbr.size)
        have hP3 := HP3.out
        rw [hKs] at hP3
        obtain ⟨k1, k2⟩ := hP3.know (Nat.le_trans hbw hbr3.size)
        exact .inr ⟨_, x, _, hKs, fun y hy => by rw [HDL.out]; exact HA.out y hy, HRB.out, rfl, k1, (Lf.of_below hbr3 hbw).trans k2⟩
      | false =>
        go_wp2_with (go_at_call 97; (with_reducible refine CH.out.mono ?_); rintro e w3 ⟨rfl, hb⟩)
        go_roundw
        case rel =>
          refine ⟨j + 1, by omega, by go_num, ?_, HB.out.trans (hb.mono HB.out.size)⟩
          intro y hy
          rw [List.take_add_one, HX.out] at hy
          rcases List.mem_append.1 hy with hy | hy
          · exact HA.out y hy
          · have : y = x := by simpa using hy
            rw [this, ← HDL.out]
            exact HRB.out
        case measure => simp [intOf]; omega
    · obtain rfl : j = K.length := by omega
      go_wp2
      go_ret2
      refine .inl ⟨rfl, fun y hy => ?_, HP2.out.below HB.out, Lf.of_below (HB0.out.trans (HB.out.mono HB0.out.size)) hbw⟩
      rw [HDL.out]
      exact HA.out y (by rw [List.take_length]; exact hy)
end Go.Proofs.Ytakmcbakogjeeaa.Pt
