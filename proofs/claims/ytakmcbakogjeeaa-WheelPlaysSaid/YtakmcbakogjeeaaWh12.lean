/- Wheels (layer 25): Next; no condition. -/
import Derived.Test.YtakmcbakogjeeaaWh11
set_option linter.unusedVariables false
set_option linter.unusedSimpArgs false
namespace Go.Proofs.Ytakmcbakogjeeaa.Wh
open Go Go.RowKit Go.Maps Go.Proofs.Ytakmcbakogjeeaa.Rm Go.Proofs.Ytakmcbakogjeeaa.Rw
open Go.Proofs.YtakmcbakogjeeaaW.PrintWords Go.Proofs.YtakmcbakogjeeaaW.PrintLast Go.Proofs.YtakmcbakogjeeaaW.PrintMore
variable {W W' W2 : World} {b p m n : Nat} {now : Int} {kv : KV} {R : List Row} {L : List Tm} {x x' : Row} {F F' F2 : Nat → Prop}
/-- Under way: the least time of those that were told. -/
def NextRel (W : World) (m n : Nat) (kv : KV) (L : List Tm) (lv iv : Value) (wr : World) : Prop :=
  ∃ (least : Int) (is : Bool) (left : Lit → Bool) (cnt : Nat), lv = .int .i64 least ∧ iv = .bool is ∧ wr.ranges Try.prog 3 rawElem m W.heap.size n (mapD kv) left cnt ∧ Below W.heap.size W wr ∧
    (is = false → least = 0 ∧ ∀ t ∈ L, left (.int .i64 t.1) = true) ∧ (is = true → (∃ t ∈ L, t.2 = least) ∧ ∀ t ∈ L, left (.int .i64 t.1) = false → least ≤ t.2)
def nextT : List Tm → Int × Bool
  | [] => (0, false)
  | t :: _ => (t.2, true)
theorem next_fin (hs : L.Pairwise lt) {least : Int} {is : Bool} {left : Lit → Bool} (h0 : ∀ k, left k = false) (h1 : is = false → least = 0 ∧ ∀ t ∈ L, left (.int .i64 t.1) = true) (h2 : is = true → (∃ t ∈ L, t.2 = least) ∧ ∀ t ∈ L, left (.int .i64 t.1) = false → least ≤ t.2) : nextT L = (least, is) := by
  cases L with
  | nil =>
    cases is with
    | false => rw [(h1 rfl).1]; rfl
    | true => obtain ⟨⟨t, ht, _⟩, _⟩ := h2 rfl; cases ht
  | cons t L =>
    cases is with
    | false =>
      have := (h1 rfl).2 t List.mem_cons_self
      rw [h0] at this
      cases this
    | true =>
      obtain ⟨⟨u, hu, e⟩, h3⟩ := h2 rfl
      have h4 := h3 t List.mem_cons_self (h0 _)
      have h5 : t.2 ≤ u.2 := by
        rcases List.mem_cons.1 hu with rfl | hu
        · exact Int.le_refl _
        · have := (List.pairwise_cons.1 hs).1 u hu
          unfold lt at this
          omega
      show (t.2, true) = (least, true)
      rw [show t.2 = least by omega]
theorem next_step {least k a : Int} {is : Bool} {left : Lit → Bool} (hm : (k, a) ∈ L) (hk : L.Pairwise (fun a b => a.1 ≠ b.1)) (h1 : is = false → least = 0 ∧ ∀ t ∈ L, left (.int .i64 t.1) = true) (h2 : is = true → (∃ t ∈ L, t.2 = least) ∧ ∀ t ∈ L, left (.int .i64 t.1) = false → least ≤ t.2)
    {l' : Int} (hl : (is = false ∨ a < least) ∧ l' = a ∨ (is = true ∧ least ≤ a) ∧ l' = least) : (∃ t ∈ L, t.2 = l') ∧ ∀ t ∈ L, (left (.int .i64 t.1) && !(Lit.int .i64 t.1).sameKey (.int .i64 k)) = false → l' ≤ t.2 := by
  have hkt : ∀ t ∈ L, (left (.int .i64 t.1) && !(Lit.int .i64 t.1).sameKey (.int .i64 k)) = false → left (.int .i64 t.1) = false ∨ t.2 = a := fun t ht h => by
    rw [sameKey_int] at h
    by_cases htk : t.1 = k
    · refine .inr ?_
      have e1 := (find_some hk).1 hm
      have e2 := (find_some (k := k) (a := t.2) hk).1 (by rw [← htk]; exact ht)
      rw [e1] at e2
      injection e2 with e2
      exact e2.symm
    · rw [show (t.1 == k) = false by simp [htk]] at h
      exact .inl (by simpa using h)
  rcases hl with ⟨h, rfl⟩ | ⟨⟨hi, h⟩, rfl⟩
  · refine ⟨⟨_, hm, rfl⟩, fun t ht hf => ?_⟩
    rcases hkt t ht hf with h3 | h3
    · cases hi : is with
      | false => rw [(h1 hi).2 t ht] at h3; cases h3
      | true =>
        have := (h2 hi).2 t ht h3
        rcases h with h | h
        · rw [hi] at h; cases h
        · omega
    · omega
  · refine ⟨(h2 hi).1, fun t ht hf => ?_⟩
    rcases hkt t ht hf with h3 | h3
    · exact (h2 hi).2 t ht h3
    · omega
set_option maxRecDepth 100000 in
set_option maxHeartbeats 1600000 in
theorem next_l (h : WhS W b p m now L R) :
    Calls Try.prog 38 #[.pointer (some ⟨p, 0, none⟩)] W fun e w' => e = .returned (.tuple #[.int .i64 (nextT L).1, .bool (nextT L).2]) ∧ Below W.heap.size W w' := by
  obtain ⟨kv, x, hkv⟩ := h.at_
  obtain ⟨_, _, c0⟩ := x.c
  obtain ⟨w1, hr, hR, hg, hs⟩ := rangeOf x.mp law Try.underlying72
  have HB : Aside0 (Below W.heap.size W w1) := ⟨(Below.refl _ W).grown hg (Nat.le_refl _) (fun k e => by cases e)⟩
  have HR := Aside0.mk hR
  have CN := Aside0.mk (none_s x)
  have HK := Aside0.mk (And.intro hkv h.tms)
  have HH : Aside0 (∀ t ∈ L, Maps.has (mapD kv) (.int .i64 t.1) = true) := ⟨fun t ht => by
    rw [mapD_has, get_of (rising_of x.mp law) hkv, (find_some h.tms.key).1 ht]
    rfl⟩
  clear h x hR hg hs hkv
  go_enter Try.func38, Try.ntmps38
  go_wp2_with (go_at_call 82; (with_reducible refine CN.out.mono ?_); rintro e w' ⟨rfl, rfl⟩)
  go_loopw [4, 5] (fun lv iv wr => NextRel W m kv.length kv L lv iv wr) (fun _ _ wr => wr.rangeLeft m W.heap.size)
  case atStart => exact ⟨0, false, _, _, rfl, rfl, HR.out, HB.out, fun _ => ⟨rfl, HH.out⟩, fun h => by cases h⟩
  case round =>
    obtain ⟨least, is, left, cnt, rfl, rfl, hrg, hbl, h1, h2⟩ := hrel
    have HRG := Aside0.mk hrg
    have HBL := Aside0.mk hbl
    have H12 := Aside0.mk (And.intro h1 h2)
    clear hrg hbl h1 h2
    rcases nextOf Try.underlying3 HRG.out law 0 with ⟨hc0, hl0, hrun⟩ | ⟨k, u, w2, cnt', hku, hwf, hlk, hrun, hrg2, hlt2, hg2, hs2, hen⟩
    · have HF := Aside0.mk (next_fin HK.out.2.srt hl0 H12.out.1 H12.out.2)
      clear hl0
      go_wp2_with fail
      go_ret2
      rw [HF.out]
      exact ⟨rfl, HBL.out⟩
    · obtain ⟨t, ht, e⟩ := List.mem_map.1 (HK.out.1.mem_iff.1 hku)
      injection e with e1 e2
      subst e2; subst e1
      have HM := Aside0.mk (show (t.1, t.2) ∈ L from ht)
      have HB2 := Aside0.mk (HBL.out.grown hg2 HBL.out.size (fun j hj => by cases hj; exact Nat.le_refl _))
      have HR2 := Aside0.mk hrg2
      have HLT := Aside0.mk (show cnt' < wr.rangeLeft m W.heap.size by rw [HRG.out.left_eq]; exact hlt2)
      clear hrg2 hku hlk hlt2 hg2 hs2 ht
      have hway : (is = false) ∨ (is = true ∧ t.2 < least) ∨ (is = true ∧ least ≤ t.2) := by
        cases is
        · exact .inl rfl
        · rcases Int.lt_or_le t.2 least with h | h
          · exact .inr (.inl ⟨rfl, h⟩)
          · exact .inr (.inr ⟨rfl, h⟩)
      rcases hway with rfl | ⟨rfl, hlt⟩ | ⟨rfl, hle⟩
      · go_wp2_with fail
        have HST := next_step HM.out HK.out.2.key H12.out.1 H12.out.2 (.inl ⟨.inl rfl, rfl⟩)
        exact ⟨⟨_, true, _, _, rfl, rfl, HR2.out, HB2.out, (fun h => by cases h), fun _ => HST⟩, by rw [HR2.out.left_eq]; exact HLT.out⟩
      · go_wp2_with fail
        have HST := next_step HM.out HK.out.2.key H12.out.1 H12.out.2 (.inl ⟨.inr hlt, rfl⟩)
        exact ⟨⟨_, true, _, _, rfl, rfl, HR2.out, HB2.out, (fun h => by cases h), fun _ => HST⟩, by rw [HR2.out.left_eq]; exact HLT.out⟩
      · go_wp2_with fail
        have HST := next_step HM.out HK.out.2.key H12.out.1 H12.out.2 (.inr ⟨⟨rfl, hle⟩, rfl⟩)
        exact ⟨⟨_, true, _, _, rfl, rfl, HR2.out, HB2.out, (fun h => by cases h), fun _ => HST⟩, by rw [HR2.out.left_eq]; exact HLT.out⟩
end Go.Proofs.Ytakmcbakogjeeaa.Wh
