/- The walks of a queue's calls on a queue that no call made; no condition. -/
import Derived.Test.YtpilpgdlgkndmaaChecked
import Derived.Test.YtpilpgdlgkndmaaWMore
set_option linter.unusedVariables false
set_option linter.unusedSimpArgs false
namespace Go.Proofs.Ytpilpgdlgkndmaa.DgN
open Go.RowKit Go.Proofs.YtpilpgdlgkndmaaW.PrintWords Go.Proofs.YtpilpgdlgkndmaaW.PrintLast Go.Proofs.YtpilpgdlgkndmaaW.PrintMore

/-- No call made it: all fields zero. -/
structure Zero (w : World) (g : Nat) : Prop where
  c0 : w.cell? ⟨g, 0, none⟩ = some (.bool false)
  c1 : w.cell? ⟨g, 1, none⟩ = some (.int .i64 0)
  c2 : w.cell? ⟨g, 2, none⟩ = some (.int .i64 0)
  c3 : w.cell? ⟨g, 3, none⟩ = some (.slice none 0 0)

theorem none_nil (w : World) : Calls Try.prog 38 #[.pointer none] w fun e w' => e = .returned (.bool true) ∧ w = w' := by
  go_enter Try.func38, Try.ntmps38
  go_wp2
  go_ret
  exact ⟨rfl, rfl⟩
theorem none_zero (w : World) (g : Nat) (h : Zero w g) : Calls Try.prog 38 #[.pointer (some ⟨g, 0, none⟩)] w fun e w' => e = .returned (.bool true) ∧ w = w' := by
  obtain ⟨c0, c1, c2, c3⟩ := h
  go_enter Try.func38, Try.ntmps38
  go_wp2
  go_ret
  exact ⟨rfl, rfl⟩
theorem Zero.below {w w' : World} {g : Nat} (h : Zero w g) (hb : Below w.heap.size w w') : Zero w' g :=
  ⟨pw_cell_below hb h.c0, pw_cell_below hb h.c1, pw_cell_below hb h.c2, pw_cell_below hb h.c3⟩
/-- Nobody's queue. -/
def Nob (w : World) (p : Value) : Prop := p = .pointer none ∨ ∃ g, p = .pointer (some ⟨g, 0, none⟩) ∧ Zero w g
theorem Nob.below {w w' : World} {p : Value} (h : Nob w p) (hb : Below w.heap.size w w') : Nob w' p := by
  rcases h with rfl | ⟨g, rfl, h⟩
  · exact .inl rfl
  · exact .inr ⟨g, rfl, h.below hb⟩
theorem Nob.drewN {w : World} {p : Value} (h : Nob w p) (n : Nat) : Nob (w.drewN n) p := h.below (pw_below_drewN (Below.refl _ _) n)
theorem none_any (w : World) (p : Value) (h : Nob w p) : Calls Try.prog 38 #[p] w fun e w' => e = .returned (.bool true) ∧ w = w' := by
  rcases h with rfl | ⟨g, rfl, h⟩
  · exact none_nil w
  · exact none_zero w g h
theorem wrong_any (w : World) (p : Value) (A0 : Option Addr) (n c : Nat) (r : Bool) (h : Nob w p) :
    Calls Try.prog 35 #[p, .slice A0 n c, .bool r] w fun e w' => e = .returned (.int .i64 1) ∧ w = w' := by
  have H := Aside0.mk h
  clear h
  go_enter Try.func35, Try.ntmps35
  go_wp2_with (go_at_call 38; refine (none_any _ _ H.out).mono ?_; rintro e w' ⟨rfl, rfl⟩)
  go_ret
  exact ⟨rfl, rfl⟩
theorem full_any (w : World) (p : Value) (h : Nob w p) :
    Calls Try.prog 36 #[p] w fun e w' => e = .returned (.bool false) ∧ Drawn0 w w' := by
  have H := Aside0.mk h
  clear h
  go_enter Try.func36, Try.ntmps36
  go_wp2_with fail
  go_quiet ((go_at_call 38; refine (none_any _ _ (H.out.drewN _)).mono ?_; rintro e w' ⟨rfl, rfl⟩; exact ⟨rfl, _, rfl⟩))
  go_wp2
  go_ret
  exact ⟨rfl, ⟨⟨_, rfl⟩⟩⟩
theorem put_any (w : World) (p : Value) (A0 : Option Addr) (n c : Nat) (h : Nob w p) :
    Calls Try.prog 12 #[p, .slice A0 n c] w fun e w' => e = .returned (.int .i64 1) ∧ Drawn0 w w' := by
  have H := Aside0.mk h
  clear h
  go_enter Try.func12, Try.ntmps12
  go_wp2_with (first
    | (go_at_call 36; refine (full_any _ _ H.out).mono ?_; rintro e w' ⟨rfl, ⟨nd, rfl⟩⟩)
    | (go_at_call 35; refine (wrong_any _ _ _ _ _ _ (H.out.drewN _)).mono ?_; rintro e w' ⟨rfl, rfl⟩))
  go_ret
  exact ⟨rfl, ⟨⟨_, rfl⟩⟩⟩
theorem push_any (w : World) (p : Value) (A0 : Option Addr) (n c : Nat) (h : Nob w p) :
    Calls Try.prog 20 #[p, .slice A0 n c] w fun e w' => e = .returned (.tuple #[.slice none 0 0, .bool false, .int .i64 1]) ∧ w = w' := by
  have H := Aside0.mk h
  clear h
  go_enter Try.func20, Try.ntmps20
  go_wp2_with (first
    | (go_at_call 38; refine (none_any _ _ H.out).mono ?_; rintro e w' ⟨rfl, rfl⟩)
    | (go_at_call 35; refine (wrong_any _ _ _ _ _ _ H.out).mono ?_; rintro e w' ⟨rfl, rfl⟩))
  go_ret3
  exact ⟨rfl, rfl⟩
theorem next_any (w : World) (p : Value) (n : Int) (h : Nob w p) :
    Calls Try.prog 13 #[p, .int .i64 n] w fun e w' => e = .returned (.tuple #[.slice none 0 0, .bool false]) ∧ w = w' := by
  have H := Aside0.mk h
  clear h
  go_enter Try.func13, Try.ntmps13
  go_wp2_with (go_at_call 38; refine (none_any _ _ H.out).mono ?_; rintro e w' ⟨rfl, rfl⟩)
  go_ret2
  exact ⟨rfl, rfl⟩
theorem told_any (w : World) (p : Value) (h : Nob w p) :
    Calls Try.prog 14 #[p] w fun e w' => e = .returned (.tuple #[.int .i64 0, .int .i64 0]) ∧ w = w' := by
  have H := Aside0.mk h
  clear h
  go_enter Try.func14, Try.ntmps14
  go_wp2_with (go_at_call 38; refine (none_any _ _ H.out).mono ?_; rintro e w' ⟨rfl, rfl⟩)
  go_ret2
  exact ⟨rfl, rfl⟩

/-- What the law's loop rests on: the act, and the two pointers. -/
structure Base (w : World) (s z r : Nat) (k : Int) (A : Option Addr) (n c : Nat) (m : Int) : Prop where
  a0 : w.cell? ⟨s, 0, none⟩ = some (.int .i64 k)
  a1 : w.cell? ⟨s, 1, none⟩ = some (.slice A n c)
  a2 : w.cell? ⟨s, 2, none⟩ = some (.int .i64 m)
  z0 : Zero w z
  r0 : w.cell? ⟨r, 0, none⟩ = some (.pointer none)
  r1 : w.cell? ⟨r, 1, none⟩ = some (.pointer (some ⟨z, 0, none⟩))
theorem Base.below {w w' : World} {s z r : Nat} {k : Int} {A : Option Addr} {n c : Nat} {m : Int} (h : Base w s z r k A n c m) (hb : Below w.heap.size w w') : Base w' s z r k A n c m :=
  ⟨pw_cell_below hb h.a0, pw_cell_below hb h.a1, pw_cell_below hb h.a2, h.z0.below hb, pw_cell_below hb h.r0, pw_cell_below hb h.r1⟩
def Rel (w : World) (k : Int) (A : Option Addr) (n c : Nat) (m : Int) (i : Value) (W : World) : Prop :=
  ∃ j : Nat, j ≤ 2 ∧ i = .int .i64 j ∧ Below w.heap.size w W ∧ Base W w.heap.size (w.heap.size + 1) (w.heap.size + 2) k A n c m
theorem nobody_walk (k : Int) (A : Option Addr) (n c : Nat) (m : Int) (w : World) :
    Calls Try.prog 7 #[.agg #[.int .i64 k, .slice A n c, .int .i64 m]] w fun e w' => e = .returned (.bool true) ∧ Below w.heap.size w w' := by
  go_enter Try.func7, Try.ntmps7
  go_wp2
  go_loopw [16] (fun i W => Rel w k A n c m i W) (fun i _ => 2 - (intOf i).toNat)
  case atStart =>
    refine ⟨0, by omega, rfl, by repeat (first | exact Below.refl _ _ | apply below_alloc), ?_⟩
    constructor
    all_goals first | (constructor <;> go_simp) | go_simp
  case round =>
    obtain ⟨j, hj, rfl, hB, hbase⟩ := hrel
    have HB := Aside0.mk hB
    have HBase := Aside0.mk hbase
    obtain ⟨a0, a1, a2, z0, r0, r1⟩ := hbase
    clear hB
    have cj : j = 0 ∨ j = 1 ∨ j = 2 := by omega
    rcases cj with rfl | rfl | rfl
    · have hN : Nob wr (.pointer none) := .inl rfl
      have HN := Aside0.mk hN
      clear hN
      go_wp2_with (first
        | (go_at_call 20; refine (push_any _ _ _ _ _ HN.out).mono ?_; rintro e w' ⟨rfl, rfl⟩)
        | (go_at_call 13; refine (next_any _ _ _ HN.out).mono ?_; rintro e w' ⟨rfl, rfl⟩)
        | (go_at_call 14; refine (told_any _ _ HN.out).mono ?_; rintro e w' ⟨rfl, rfl⟩)
        | (go_at_call 12; refine (put_any _ _ _ _ _ HN.out).mono ?_; rintro e w' ⟨rfl, hd⟩; have HD := Aside0.mk hd.below; clear hd))
      go_roundw
      case rel => exact ⟨1, by omega, rfl, below_then HB.out HB.out.size HD.out, HBase.out.below HD.out⟩
      case measure => simp [intOf]
    · have hN : Nob wr (.pointer (some ⟨w.heap.size + 1, 0, none⟩)) := .inr ⟨_, rfl, z0⟩
      have HN := Aside0.mk hN
      clear hN
      go_wp2_with (first
        | (go_at_call 20; refine (push_any _ _ _ _ _ HN.out).mono ?_; rintro e w' ⟨rfl, rfl⟩)
        | (go_at_call 13; refine (next_any _ _ _ HN.out).mono ?_; rintro e w' ⟨rfl, rfl⟩)
        | (go_at_call 14; refine (told_any _ _ HN.out).mono ?_; rintro e w' ⟨rfl, rfl⟩)
        | (go_at_call 12; refine (put_any _ _ _ _ _ HN.out).mono ?_; rintro e w' ⟨rfl, hd⟩; have HD := Aside0.mk hd.below; clear hd))
      go_roundw
      case rel => exact ⟨2, by omega, rfl, below_then HB.out HB.out.size HD.out, HBase.out.below HD.out⟩
      case measure => simp [intOf]
    · go_wp2
      go_ret
      exact ⟨rfl, HB.out⟩
end Go.Proofs.Ytpilpgdlgkndmaa.DgN
