/- Parameters (layer 3): may a number be a parameter's value, the closures of Check; slices.IndexFunc and ContainsFunc with them; no condition. -/
import Derived.Test.YtcidijmdndcdlaaDoorPr1
set_option linter.unusedVariables false
set_option linter.unusedSimpArgs false
namespace Go.Proofs.YtcidijmdndcdlaaDoor.Pr
open Go Go.RowKit Go.Proofs.YtcidijmdndcdlaaDoor.Pm
open Go.Proofs.YtcidijmdndcdlaaDoorW.PrintWords Go.Proofs.YtcidijmdndcdlaaDoorW.PrintLast Go.Proofs.YtcidijmdndcdlaaDoorW.PrintMore
variable {W W' : World} {g b : Nat} {p : Pm} {vo vf va : Value}
set_option maxRecDepth 100000 in
theorem may_s (id least most none_ v : Int) (at_ : Option Addr) : Calls Tryd.prog 29 #[.agg #[.int .i64 id, .pointer at_, .int .i64 least, .int .i64 most, .int .i64 none_], .int .i64 v] W fun e w' =>
    e = .returned (.bool (decide (least ≤ v) && decide (v ≤ most))) ∧ Below W.heap.size W w' := by
  by_cases h1 : least ≤ v
  · go_enter Tryd.func29, Tryd.ntmps29
    by_cases h2 : v ≤ most
    · go_wp2
      go_ret
      exact ⟨by simp [h1, h2], Bl.alloc (Below.refl _ _) _⟩
    · go_wp2
      go_ret
      exact ⟨by simp [h1, h2], Bl.alloc (Below.refl _ _) _⟩
  · go_enter Tryd.func29, Tryd.ntmps29
    go_wp2
    go_ret
    exact ⟨by rw [decide_eq_false (by omega : ¬ least ≤ v)]; rfl, Bl.alloc (Below.refl _ _) _⟩
/-- A row of fields as a value. -/
abbrev fldV (g k : Nat) : Value := .agg #[.int .i64 (fid k), .pointer (some ⟨g, foff k, none⟩), .int .i64 (fleast k), .int .i64 (fmost k), .int .i64 (fnone k)]
set_option maxRecDepth 100000 in
theorem odd_s (h : PmAt W g p vo vf va) (hs : Sz p) {k : Nat} (hk : k < 12) : Calls Tryd.prog 28 #[fldV g k] W fun e w' =>
    e = .returned (.bool (!may k (p.nk k))) ∧ Below W.heap.size W w' := by
  have c := h.num hs hk
  have HB1 := Aside0.mk (Bl.alloc (Below.refl _ W) (.cells #[.int .i64 (fid k), .pointer (some ⟨g, foff k, none⟩), .int .i64 (fleast k), .int .i64 (fmost k), .int .i64 (fnone k)] 57 (0, 0)))
  have c1 := Bl.cell HB1.out c
  have hm : (decide (fleast k ≤ p.nk k) && decide (p.nk k ≤ fmost k)) = may k (p.nk k) := rfl
  have HM := fun W' => may_s (W := W') (fid k) (fleast k) (fmost k) (fnone k) (p.nk k) (some ⟨g, foff k, none⟩)
  rw [hm] at HM
  have HA := Aside0.mk HM
  clear HM hm
  go_enter Tryd.func28, Tryd.ntmps28
  go_wp2_with fail
  go_region_with (go_at_call 29; (with_reducible refine (HA.out _).mono ?_); rintro e w' ⟨rfl, hb⟩)
  all_goals
    go_wp2
    go_ret
    exact ⟨rfl, Bl.then (Bl.drew HB1.out) hb⟩
/-- The closure of Check. -/
abbrev oddF : Value := .func (.func 28) #[] #[]
abbrev longF : Value := .func (.func 30) #[] #[]
set_option maxRecDepth 100000 in
set_option maxHeartbeats 1600000 in
theorem idx_fld (h : PmAt W g p vo vf va) (hf : FldAt W b g) (hs : Sz p) :
    Calls Tryd.prog 46 #[.slice (some ⟨b, 0, none⟩) 12 12, oddF] W fun e w' =>
      ∃ r : Int, e = .returned (.int .i64 r) ∧ decide (0 ≤ r) = p.odd ∧ Below W.heap.size W w' := by
  have H := Aside0.mk h
  have HF := Aside0.mk hf
  have HS := Aside0.mk hs
  clear h hf hs
  go_enter Tryd.func46, Tryd.ntmps46
  go_wp2
  go_loopw [8] (fun iv W' => ∃ j : Nat, j ≤ 12 ∧ iv = .int .i64 j ∧ (∀ k, k < j → may k (p.nk k) = true) ∧ Below W.heap.size W W') (fun iv _ => 12 - (intOf iv).toNat)
  case atStart => exact ⟨0, by omega, rfl, (fun k hk => by omega), Below.refl _ _⟩
  case round =>
    obtain ⟨j, hj, rfl, hany, hB⟩ := hrel
    have HA := Aside0.mk hany
    have HB := Aside0.mk hB
    clear hany hB
    by_cases hlt : j < 12
    · obtain ⟨c0, c1, c2, c3, c4⟩ := (HF.out.below HB.out HF.out.lt).cells hlt
      have CC := Aside0.mk (odd_s (H.out.below HB.out H.out.lt) HS.out hlt)
      obtain ⟨rb, hrb⟩ : ∃ rb, (!may j (p.nk j)) = rb := ⟨_, rfl⟩
      rw [hrb] at CC
      have HRB := Aside0.mk hrb
      clear hrb
      cases rb with
      | true =>
        go_wp2_with (go_at_call 28; (with_reducible refine CC.out.mono ?_); rintro e w' ⟨rfl, hb⟩)
        go_ret
        refine ⟨_, rfl, ?_, Bl.then HB.out hb⟩
        have : p.odd = true := by
          unfold Pm.odd
          rw [List.any_eq_true]
          exact ⟨j, List.mem_range.2 hlt, HRB.out⟩
        rw [this]
        simp
      | false =>
        go_wp2_with (go_at_call 28; (with_reducible refine CC.out.mono ?_); rintro e w' ⟨rfl, hb⟩)
        go_roundw
        case rel =>
          refine ⟨j + 1, by omega, by go_num, fun k hk => ?_, Bl.then HB.out hb⟩
          by_cases hkj : k = j
          · subst hkj
            have := HRB.out
            cases hm : may k (p.nk k) with
            | true => rfl
            | false => rw [hm] at this; cases this
          · exact HA.out k (by omega)
        case measure => simp [intOf]; omega
    · obtain rfl : j = 12 := by omega
      go_wp2
      go_ret
      refine ⟨-1, rfl, ?_, HB.out⟩
      have : p.odd = false := by
        unfold Pm.odd
        rw [List.any_eq_false]
        intro k hk
        rw [HA.out k (List.mem_range.1 hk)]
        simp
      rw [this]
      rfl
set_option maxRecDepth 100000 in
theorem cont_fld (h : PmAt W g p vo vf va) (hf : FldAt W b g) (hs : Sz p) :
    Calls Tryd.prog 31 #[.slice (some ⟨b, 0, none⟩) 12 12, oddF] W fun e w' =>
      e = .returned (.bool p.odd) ∧ Below W.heap.size W w' := by
  have CI := Aside0.mk (idx_fld h hf hs)
  clear h hf hs
  go_enter Tryd.func31, Tryd.ntmps31
  go_wp2_with (go_at_call 46; (with_reducible refine CI.out.mono ?_); rintro e w' ⟨r, rfl, hr, hb⟩)
  go_ret
  exact ⟨by rw [← hr]; rfl, hb⟩
set_option maxRecDepth 100000 in
theorem long_s (A : Option Addr) (n c : Nat) : Calls Tryd.prog 30 #[.slice A n c] W fun e w' => e = .returned (.bool (decide (n > 20))) ∧ W = w' := by
  by_cases h : n > 20
  · go_enter Tryd.func30, Tryd.ntmps30
    go_wp2
    go_ret
    exact ⟨by simp [h]; omega, rfl⟩
  · go_enter Tryd.func30, Tryd.ntmps30
    go_wp2
    go_ret
    exact ⟨by simp [h]; omega, rfl⟩
set_option maxRecDepth 100000 in
set_option maxHeartbeats 1600000 in
theorem idx_long (A0 A1 A2 : Option Addr) (n0 n1 n2 c0 c1 c2 : Nat) (h : W.heap[b]? = some (.cells #[.slice A0 n0 c0, .slice A1 n1 c1, .slice A2 n2 c2] 22 (0, 0))) :
    Calls Tryd.prog 47 #[.slice (some ⟨b, 0, none⟩) 3 3, longF] W fun e w' =>
      ∃ r : Int, e = .returned (.int .i64 r) ∧ decide (0 ≤ r) = (decide (n0 > 20) || decide (n1 > 20) || decide (n2 > 20)) ∧ W = w' := by
  have e0 : W.cell? ⟨b, 0, none⟩ = some (.slice A0 n0 c0) := by rw [cell_of_row W b _ _ _ _ h]; rfl
  have e1 : W.cell? ⟨b, 1, none⟩ = some (.slice A1 n1 c1) := by rw [cell_of_row W b _ _ _ _ h]; rfl
  have e2 : W.cell? ⟨b, 2, none⟩ = some (.slice A2 n2 c2) := by rw [cell_of_row W b _ _ _ _ h]; rfl
  clear h
  have L0 := Aside0.mk (long_s (W := W) A0 n0 c0)
  have L1 := Aside0.mk (long_s (W := W) A1 n1 c1)
  have L2 := Aside0.mk (long_s (W := W) A2 n2 c2)
  generalize decide (n0 > 20) = r0 at *
  generalize decide (n1 > 20) = r1 at *
  generalize decide (n2 > 20) = r2 at *
  go_enter Tryd.func47, Tryd.ntmps47
  cases r0 with
  | true =>
    go_wp2
    refine wp_loop_rounds 4 ?_
    rw [rounds_succ]
    go_wp2_with (go_at_call 30; (with_reducible refine L0.out.mono ?_); rintro e w' ⟨rfl, rfl⟩)
    go_ret
    exact ⟨_, rfl, rfl, rfl⟩
  | false =>
    cases r1 with
    | true =>
      go_wp2
      refine wp_loop_rounds 4 ?_
      rw [rounds_succ]
      go_wp2_with (go_at_call 30; (with_reducible refine L0.out.mono ?_); rintro e w' ⟨rfl, rfl⟩)
      rw [rounds_succ]
      go_wp2_with (go_at_call 30; (with_reducible refine L1.out.mono ?_); rintro e w' ⟨rfl, rfl⟩)
      go_ret
      exact ⟨_, rfl, rfl, rfl⟩
    | false =>
      cases r2 with
      | true =>
        go_wp2
        refine wp_loop_rounds 4 ?_
        rw [rounds_succ]
        go_wp2_with (go_at_call 30; (with_reducible refine L0.out.mono ?_); rintro e w' ⟨rfl, rfl⟩)
        rw [rounds_succ]
        go_wp2_with (go_at_call 30; (with_reducible refine L1.out.mono ?_); rintro e w' ⟨rfl, rfl⟩)
        rw [rounds_succ]
        go_wp2_with (go_at_call 30; (with_reducible refine L2.out.mono ?_); rintro e w' ⟨rfl, rfl⟩)
        go_ret
        exact ⟨_, rfl, rfl, rfl⟩
      | false =>
        go_wp2
        refine wp_loop_rounds 4 ?_
        rw [rounds_succ]
        go_wp2_with (go_at_call 30; (with_reducible refine L0.out.mono ?_); rintro e w' ⟨rfl, rfl⟩)
        rw [rounds_succ]
        go_wp2_with (go_at_call 30; (with_reducible refine L1.out.mono ?_); rintro e w' ⟨rfl, rfl⟩)
        rw [rounds_succ]
        go_wp2_with (go_at_call 30; (with_reducible refine L2.out.mono ?_); rintro e w' ⟨rfl, rfl⟩)
        rw [rounds_succ]
        go_wp2
        go_ret
        exact ⟨_, rfl, rfl, rfl⟩
set_option maxRecDepth 100000 in
theorem cont_long (A0 A1 A2 : Option Addr) (n0 n1 n2 c0 c1 c2 : Nat) (h : W.heap[b]? = some (.cells #[.slice A0 n0 c0, .slice A1 n1 c1, .slice A2 n2 c2] 22 (0, 0))) :
    Calls Tryd.prog 32 #[.slice (some ⟨b, 0, none⟩) 3 3, longF] W fun e w' =>
      e = .returned (.bool (decide (n0 > 20) || decide (n1 > 20) || decide (n2 > 20))) ∧ W = w' := by
  have CI := Aside0.mk (idx_long A0 A1 A2 n0 n1 n2 c0 c1 c2 h)
  clear h
  generalize (decide (n0 > 20) || decide (n1 > 20) || decide (n2 > 20)) = rb at *
  go_enter Tryd.func32, Tryd.ntmps32
  go_wp2_with (go_at_call 47; (with_reducible refine CI.out.mono ?_); rintro e w' ⟨r, rfl, hr, rfl⟩)
  go_ret
  exact ⟨by rw [← hr]; rfl, rfl⟩
end Go.Proofs.YtcidijmdndcdlaaDoor.Pr
