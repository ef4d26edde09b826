/- Boxes (layer 6): what tells of them: Limit, Grow, Ready, Held; no condition. -/
import Derived.Test.YtakmcbakogjeeaaIb4
set_option linter.unusedVariables false
set_option linter.unusedSimpArgs false
namespace Go.Proofs.Ytakmcbakogjeeaa.Ib
open Go Go.RowKit Go.Maps Go.Proofs.Ytakmcbakogjeeaa.Rm
open Go.Proofs.YtakmcbakogjeeaaW.PrintWords Go.Proofs.YtakmcbakogjeeaaW.PrintLast Go.Proofs.YtakmcbakogjeeaaW.PrintMore
variable {W W' : World} {b g m n : Nat} {D : Nat → Prop} {h : Hd} {kv : KV} {P : List Pc}
theorem limit_s (x : BoxAt W b g m n h kv) : Calls Try.prog 22 #[.pointer (some ⟨g, 0, none⟩)] W fun e w' => e = .returned (.int .i64 h.limit) ∧ W = w' := by
  obtain ⟨c0, c1, c2, c3, c4, c5, c6, c7⟩ := x.c
  have X := Aside0.mk x
  clear x
  go_enter Try.func22, Try.ntmps22
  go_wp2_with (go_at_call 74; refine (none_s X.out).mono ?_; rintro e w' ⟨rfl, rfl⟩)
  go_ret
  exact ⟨rfl, rfl⟩
theorem zeroS' (w : World) : (zeroValue 22).run Try.prog w = .ok (.slice none 0 0) w := by kernel_rfl
/-- A look-up by the place. -/
theorem look_at (hm : W.ownsMap Try.prog 3 rawElem m n (mapD kv)) {k : Int} (hwf : (Lit.int .i64 k).wf = true) : (Instr.lookup 42 (.map (some m)) (.int .i64 k) true).run Try.prog W = .ok (.tuple #[(getL kv k).getD (.slice none 0 0), .bool (getL kv k).isSome]) W :=
  Rm.look_ok hm law Try.underlying42 (zeroS' W) (keyInt Try.underlying3 hwf)
theorem wf_of {k : Int} (h0 : 0 ≤ k) (h1 : k ≤ 9223372036854775807) : (Lit.int .i64 k).wf = true := by
  have m0 : IntKind.i64.min = -9223372036854775808 := by decide +kernel
  have m1 : IntKind.i64.max = 9223372036854775807 := by decide +kernel
  simp [Lit.wf, m0, m1]
  omega
/-- What lies at the place, of pieces from the place on. -/
theorem get_head {pl : Int} : ∀ {kv : KV} {P : List Pc}, Pcs W D kv P → OkP pl P → (getL kv pl = none ∧ readyP pl P = 0 ∧ ∀ p r, P = p :: r → p.1 ≠ pl) ∨ ∃ v bs kv' r, kv = (pl, v) :: kv' ∧ P = (pl, bs) :: r ∧ Piece W D v bs ∧ Pcs W D kv' r ∧ getL kv pl = some v
  | [], [], _, _ => .inl ⟨rfl, rfl, fun p r h => by cases h⟩
  | (k, v) :: kv, (s, bs) :: r, ⟨h1, h2, h3⟩, ⟨o1, o2, o3⟩ => by
    simp only at h1 o1 o3
    subst h1
    have hlen : 0 < bs.length := List.length_pos_iff.2 o2
    by_cases he : k = pl
    · subst he
      exact .inr ⟨v, bs, kv, r, rfl, rfl, h2, h3, by rw [getL_cons, if_pos rfl]⟩
    · refine .inl ⟨?_, by rw [readyP, if_neg he], fun p r' hp => by cases hp; exact he⟩
      rw [getL_cons, if_neg he]
      have : ∀ p ∈ kv, pl < p.1 := fun p hp => by
        have aux : ∀ (Q : List Pc) (q : Int), OkP q Q → ∀ x ∈ Q, q ≤ x.1 := by
          intro Q
          induction Q with
          | nil => intro q _ x hx; cases hx
          | cons y Q ih =>
            rintro q ⟨a1, a2, a3⟩ x hx
            rcases List.mem_cons.1 hx with rfl | hx
            · exact a1
            · have := ih _ a3 x hx; omega
        have keys : ∀ {kv : KV} {P : List Pc}, Pcs W D kv P → ∀ p ∈ kv, ∃ x ∈ P, x.1 = p.1 := by
          intro kv
          induction kv with
          | nil => intro P _ p hp; cases hp
          | cons y kv ih =>
            intro P hP p hp
            cases P with
            | nil => exact hP.elim
            | cons z P =>
              obtain ⟨a1, a2, a3⟩ := hP
              rcases List.mem_cons.1 hp with rfl | hp
              · exact ⟨z, List.mem_cons_self, a1.symm⟩
              · obtain ⟨x, hx, hxe⟩ := ih a3 p hp
                exact ⟨x, List.mem_cons_of_mem _ hx, hxe⟩
        obtain ⟨x, hx, hxe⟩ := keys h3 p hp
        have := aux r _ o3 x hx
        omega
      unfold getL
      rw [Option.map_eq_none_iff, List.find?_eq_none]
      intro p hp
      have := this p hp
      simp
      omega
  | [], _ :: _, h, _ => h.elim
  | _ :: _, [], h, _ => h.elim
end Go.Proofs.Ytakmcbakogjeeaa.Ib
