/- Paths (layer 24): the acts that come in; the law's state with the act at hand; no condition. -/
import Derived.Test.YtakmcbakogjeeaaPt9
import Derived.Test.YtakmcbakogjeeaaWArr
import Derived.Test.YtakmcbakogjeeaaWMore
import Derived.Outline
set_option linter.unusedVariables false
set_option linter.unusedSimpArgs false
namespace Go.Proofs.Ytakmcbakogjeeaa.Pt
open Go Go.RowKit Go.Maps Go.Proofs.Ytakmcbakogjeeaa.Rm
open Go.Proofs.YtakmcbakogjeeaaW.PrintWords Go.Proofs.YtakmcbakogjeeaaW.PrintLast Go.Proofs.YtakmcbakogjeeaaW.PrintMore
abbrev ActP := Int × Int × Int × List Int
abbrev actK : Kd ActP := Kd.pair (Kd.int .i64) (Kd.pair (Kd.int .i64) (Kd.pair (Kd.int .i64) (Kd.arr 8 (Kd.int .u8) (by decide))))
theorem list8 {α : Type} {l : List α} (h : l.length = 8) : ∃ a b c d e f g i, l = [a, b, c, d, e, f, g, i] := by
  match l, h with
  | [a, b, c, d, e, f, g, i], _ => exact ⟨a, b, c, d, e, f, g, i, rfl⟩
theorem came_act {w : World} {A : Option Addr} {xs : List ActP} {k : Nat} {x : ActP} (h : Kd.C actK w A xs.length xs) (hk : xs[k]? = some x) :
    ∃ ad d0 d1 d2 d3 d4 d5 d6 d7, A = some ad ∧ x.2.2.2 = [d0, d1, d2, d3, d4, d5, d6, d7] ∧ w.cell? (ad.add (k * 11)) = some (.int .i64 x.1) ∧ w.cell? (ad.add (k * 11 + 1)) = some (.int .i64 x.2.1) ∧ w.cell? (ad.add (k * 11 + 2)) = some (.int .i64 x.2.2.1) ∧
      w.cell? (ad.add (k * 11 + 3)) = some (.int .u8 d0) ∧ w.cell? (ad.add (k * 11 + 4)) = some (.int .u8 d1) ∧ w.cell? (ad.add (k * 11 + 5)) = some (.int .u8 d2) ∧ w.cell? (ad.add (k * 11 + 6)) = some (.int .u8 d3) ∧
      w.cell? (ad.add (k * 11 + 7)) = some (.int .u8 d4) ∧ w.cell? (ad.add (k * 11 + 8)) = some (.int .u8 d5) ∧ w.cell? (ad.add (k * 11 + 9)) = some (.int .u8 d6) ∧ w.cell? (ad.add (k * 11 + 10)) = some (.int .u8 d7) := by
  have hlt := (List.getElem?_eq_some_iff.1 hk).1
  obtain ⟨ad, hA, hq⟩ := h.2.2 (by omega)
  obtain ⟨cs, _, ⟨c0, r0, rfl, h0, ⟨c1, r1, rfl, h1, ⟨c2, c3, rfl, h2, h3⟩⟩⟩, hcell⟩ := hq k x hk
  have e0 : c0 = [.int .i64 x.1] := h0
  have e1 : c1 = [.int .i64 x.2.1] := h1
  have e2 : c2 = [.int .i64 x.2.2.1] := h2
  obtain ⟨hl, hr⟩ := h3
  obtain ⟨d0, d1, d2, d3, d4, d5, d6, d7, he⟩ := list8 hl
  rw [he] at hr
  have hcl : c3.length = 8 := by have := hr.1; simpa [Kd.int, Kd.scalar] using this
  obtain ⟨f0, f1, f2, f3, f4, f5, f6, f7, hf⟩ := list8 hcl
  subst hf
  have g0 : [f0] = [Value.int .u8 d0] := hr.2 0 d0 rfl
  have g1 : [f1] = [Value.int .u8 d1] := hr.2 1 d1 rfl
  have g2 : [f2] = [Value.int .u8 d2] := hr.2 2 d2 rfl
  have g3 : [f3] = [Value.int .u8 d3] := hr.2 3 d3 rfl
  have g4 : [f4] = [Value.int .u8 d4] := hr.2 4 d4 rfl
  have g5 : [f5] = [Value.int .u8 d5] := hr.2 5 d5 rfl
  have g6 : [f6] = [Value.int .u8 d6] := hr.2 6 d6 rfl
  have g7 : [f7] = [Value.int .u8 d7] := hr.2 7 d7 rfl
  injection g0 with g0; injection g1 with g1; injection g2 with g2; injection g3 with g3; injection g4 with g4; injection g5 with g5; injection g6 with g6; injection g7 with g7
  subst e0; subst e1; subst e2; subst g0; subst g1; subst g2; subst g3; subst g4; subst g5; subst g6; subst g7
  exact ⟨ad, d0, d1, d2, d3, d4, d5, d6, d7, hA, he, hcell 0 _ rfl, hcell 1 _ rfl, hcell 2 _ rfl, hcell 3 _ rfl, hcell 4 _ rfl, hcell 5 _ rfl, hcell 6 _ rfl, hcell 7 _ rfl, hcell 8 _ rfl, hcell 9 _ rfl, hcell 10 _ rfl⟩
/-- The state, and the act at hand in its block. -/
structure ThX (w0 W : World) (p m : Nat) (K : List Ent) (came sent : Int) (asked valid : Bool) (N : Int) (ab : Nat) (kd a k d0 d1 d2 d3 d4 d5 d6 d7 : Int) : Prop where
  th : Th w0 W p m K came sent asked valid N
  box : W.heap[ab]? = some (.cells #[.int .i64 kd, .int .i64 a, .int .i64 k, .int .u8 d0, .int .u8 d1, .int .u8 d2, .int .u8 d3, .int .u8 d4, .int .u8 d5, .int .u8 d6, .int .u8 d7] 98 (0, 0))
variable {w0 W W' : World} {p m : Nat} {K K' : List Ent} {came sent N came' sent' N' : Int} {asked valid asked' valid' : Bool} {ab : Nat} {kd a k d0 d1 d2 d3 d4 d5 d6 d7 : Int}
theorem ThX.next (h : ThX w0 W p m K came sent asked valid N ab kd a k d0 d1 d2 d3 d4 d5 d6 d7) (ht : Th w0 W' p m K' came' sent' asked' valid' N') (hl : Lf W W' w0.heap.size) : ThX w0 W' p m K' came' sent' asked' valid' N' ab kd a k d0 d1 d2 d3 d4 d5 d6 d7 :=
  ⟨ht, (hl.kt ab _ _ h.box (by decide) (by decide)).trans h.box⟩
theorem ThX.c (h : ThX w0 W p m K came sent asked valid N ab kd a k d0 d1 d2 d3 d4 d5 d6 d7) : W.cell? ⟨ab, 0, none⟩ = some (.int .i64 kd) ∧ W.cell? ⟨ab, 1, none⟩ = some (.int .i64 a) ∧ W.cell? ⟨ab, 2, none⟩ = some (.int .i64 k) := by
  refine ⟨?_, ?_, ?_⟩ <;> (rw [cell_of_row W ab _ _ _ _ h.box]; rfl)
theorem mask_le (x : Int) (m : Nat) (hm : m < 4611686018427387904) : 0 ≤ bits .and .i64 x m ∧ bits .and .i64 x m ≤ m := by
  have h : (BitVec.ofInt 64 x &&& BitVec.ofInt 64 (m : Int)).toNat ≤ m := by
    rw [BitVec.toNat_and]
    refine Nat.le_trans Nat.and_le_right ?_
    rw [BitVec.ofInt_natCast, BitVec.toNat_ofNat]
    exact Nat.mod_le _ _
  have e : bits .and .i64 x m = IntKind.i64.wrap ((BitVec.ofInt 64 x &&& BitVec.ofInt 64 (m : Int)).toNat : Int) := rfl
  rw [e, IntKind.wrap_i64]
  omega
end Go.Proofs.Ytakmcbakogjeeaa.Pt
