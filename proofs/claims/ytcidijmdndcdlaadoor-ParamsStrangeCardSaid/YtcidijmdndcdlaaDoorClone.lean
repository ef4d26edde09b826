/- slices.Clone of bytes, met by its contract: the same bytes, in new memory; no condition. -/
import Derived.Test.YtcidijmdndcdlaaDoorChecked
import Derived.Test.YtcidijmdndcdlaaDoorWMore
import Derived.WalkSpells
import Derived.Lib.BufferMore
set_option linter.unusedVariables false
set_option linter.unusedSimpArgs false
namespace Go.Proofs.YtcidijmdndcdlaaDoor.Clone
open Go.RowKit Go.Proofs.YtcidijmdndcdlaaDoorW.PrintWords Go.Proofs.YtcidijmdndcdlaaDoorW.PrintLast Go.Proofs.YtcidijmdndcdlaaDoorW.PrintMore

theorem info5 : (Tryd.prog.info? 5).map (fun i => (i.zero, i.size, i.bytes)) = some (some (.int .u8 0), 1, 1) := by kernel_rfl

theorem clone_nil (w : World) (n c0 : Nat) :
    Calls Tryd.prog 52 #[.slice none n c0] w fun e w' => e = .returned (.slice none 0 0) ∧ w = w' := by
  have hq : ∀ (W : World) (a : Option Addr) (n c : Nat), (binOp .eql 22 (.slice a n c) (.slice none 0 0)).run Tryd.prog W = .ok (.bool a.isNone) W := fun W a n c => by
    cases a with
    | none => exact Lib.run_eql_slice_nil_nil W n c Tryd.underlying22
    | some a => exact Lib.run_eql_slice_some_nil W a n c Tryd.underlying22
  go_enter Tryd.func52, Tryd.ntmps52
  go_wp2
  go_ret
  exact ⟨rfl, rfl⟩
theorem cells_of {w : World} {a : Addr} {l : List Int} (h : Kd.C (Kd.int .u8) w (some a) l.length l) : ∀ (j : Nat) (u : Value), (nums .u8 l)[j]? = some u → w.cell? (a.add j) = some u := by
  intro j u hu
  have hj : j < l.length := by
    have := (List.getElem?_eq_some_iff.1 hu).1
    simpa [nums] using this
  obtain ⟨ad, e, hc⟩ := Kd.at_int h (j : Int) (by omega) (by omega)
  obtain rfl := Option.some.inj e
  rw [Int.toNat_natCast] at hc
  rw [hc]
  simp only [nums, List.getElem?_map, List.getElem?_eq_getElem hj, Option.map_some, Option.some.injEq] at hu
  rw [← hu]
  simp [rd, List.getD_eq_getElem?_getD, List.getElem?_eq_getElem hj]
theorem clone_some (w : World) (a : Addr) (l : List Int) (c0 : Nat) (hc : l.length ≤ c0) (hr : Kd.C (Kd.int .u8) w (some a) l.length l) (hl : l.length ≤ 140737488355328) :
    Calls Tryd.prog 52 #[.slice (some a) l.length c0] w fun e w' => ∃ v : Value, e = .returned v ∧ Kd.R (Kd.int .u8) 5 w' w.heap.size (fun _ => True) v l ∧ Below w.heap.size w w' := by
  have hq : ∀ (W : World) (a : Option Addr) (n c : Nat), (binOp .eql 22 (.slice a n c) (.slice none 0 0)).run Tryd.prog W = .ok (.bool a.isNone) W := fun W a n c => by
    cases a with
    | none => exact Lib.run_eql_slice_nil_nil W n c Tryd.underlying22
    | some a => exact Lib.run_eql_slice_some_nil W a n c Tryd.underlying22
  have hcell := cells_of hr
  obtain ⟨i0, hi, hz0, hz1, hz2⟩ := info_parts info5
  have HC := Aside0.mk hcell
  clear hcell
  have hHR := Aside0.mk hr
  clear hr
  go_enter Tryd.func52, Tryd.ntmps52
  go_wp2_with ((with_reducible refine gate_builtin (b := .append) (xs := #[.tmp 5, .tmp 6]) rfl ?_); at_builtin; go_must (refine wpList_append_own _ rfl _ _ 22 rfl w.heap.size 5 i0 (.int .u8 0) 1 1 Tryd.underlying22 hi hz0 hz1 hz2 rfl (by decide) _ 0 [] rfl ?c0 a l.length c0 (nums .u8 l) rfl ?c1 ?c2 ?c3 ?c4 ?c5 ?c6 ?_); (case c0 => exact World.ownsRow_made w #[] 0 (Nat.le_refl _) (Nat.zero_le _) rfl); (case c1 => simp [nums]); (case c2 => exact fun j u hu => pw_cell_below (below_alloc (Below.refl _ _) _) (HC.out j u hu)); (case c3 => intro u hu; simp [nums] at hu; obtain ⟨x, _, rfl⟩ := hu; rfl); (case c4 => unfold maxLen; omega); (case c5 => omega); (case c6 => simp); intro v' w1 hown hgrow _)
  go_ret
  have hl0 : 0 + l.length = l.length := Nat.zero_add _
  rw [hl0, List.nil_append] at hown
  refine ⟨_, rfl, ?_, ?_⟩
  · exact Kd.R_of_own (by rw [show encs (Value.int .u8) l = nums .u8 l from rfl]; exact hown) (fun _ _ => trivial)
  · have hg : (w.alloc (Obj.cells #[] 5)).grownBy w1 (some w.heap.size) := hgrow
    exact (below_alloc (Below.refl _ _) (Obj.cells #[] 5)).grown hg (by simp) (fun k hk => Nat.le_of_eq (Option.some.inj hk))
/-- In the form of the print. -/
theorem clone_calls (A0 : Option Addr) (c0 : Nat) (l0 : List Int) (w : World) (hr0 : Kd.C (Kd.int .u8) w A0 l0.length l0) (hc0 : l0.length ≤ c0) (hl : l0.length ≤ 140737488355328) :
    Calls Tryd.prog 52 #[.slice A0 l0.length c0] w fun e w' => ∃ v : Value, e = .returned v ∧ Kd.R (Kd.int .u8) 5 w' w.heap.size (fun _ => True) v l0 ∧ Below w.heap.size w w' := by
  cases A0 with
  | none =>
    refine (clone_nil w l0.length c0).mono ?_
    rintro e w' ⟨rfl, rfl⟩
    have h0 : l0 = [] := by
      cases l0 with
      | nil => rfl
      | cons x l =>
        obtain ⟨ad, e, _⟩ := hr0.2.2 (Nat.succ_pos _)
        cases e
    subst h0
    exact ⟨_, rfl, Kd.R_nil _ _ _ _ _, Below.refl _ _⟩
  | some a => exact clone_some w a l0 c0 hc0 hr0 hl
end Go.Proofs.YtcidijmdndcdlaaDoor.Clone
