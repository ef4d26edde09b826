/- What has been seen (layer 8): the state, and its methods that tell; no condition. -/
import Derived.Test.YtmkojmjjlcfohaaRgTwo
set_option linter.unusedVariables false
set_option linter.unusedSimpArgs false
namespace Go.Proofs.Ytmkojmjjlcfohaa.Rg
open Go.RowKit Go.Shelf Go.Proofs.YtmkojmjjlcfohaaW.PrintWords Go.Proofs.YtmkojmjjlcfohaaW.PrintLast Go.Proofs.YtmkojmjjlcfohaaW.PrintMore Go.Proofs.Ytmkojmjjlcfohaa.Rw
/-- The state at block gs (its set at g): its cells. -/
def SnB (w0 : World) (gs g : Nat) (cs : Array Value) (W : World) : Prop := ∃ L, Kst w0 (One w0.heap.size g L) W ∧ w0.heap.size ≤ gs ∧ W.heap[gs]? = some (.cells cs 79 (0, 0))
abbrev sn (g : Nat) (dl gr cm nw wt du : Int) (is : Bool) : Array Value := #[.int .i64 dl, .pointer (some ⟨g, 0, none⟩), .int .i64 (-1), .int .i64 gr, .int .i64 cm, .int .i64 nw, .int .i64 wt, .int .i64 du, .bool is]
variable {w0 W W' : World} {gs g : Nat} {cs : Array Value} {dl gr cm nw wt du : Int} {is : Bool}
theorem SnB.below (h : SnB w0 gs g cs W) (hb : Below W.heap.size W W') : SnB w0 gs g cs W' := by
  obtain ⟨L, hk, hg, hc⟩ := h
  exact ⟨L, hk.below (one_rk _ _ _) hb, hg, (hb.block gs (Array.getElem?_eq_some_iff.1 hc).1).trans hc⟩
theorem SnB.drew (h : SnB w0 gs g cs W) : SnB w0 gs g cs W.drew := h.below (Below.refl _ _).drew
theorem SnB.drewN (h : SnB w0 gs g cs W) (n : Nat) : SnB w0 gs g cs (W.drewN n) := h.below (bl_drewN n)
theorem SnB.alloc (h : SnB w0 gs g cs W) (o : Obj) : SnB w0 gs g cs (W.alloc o) := h.below (below_alloc (Below.refl _ _) o)
theorem SnB.bel (h : SnB w0 gs g cs W) : Below w0.heap.size w0 W := by obtain ⟨L, hk, _⟩ := h; exact hk.bel
theorem SnB.cell (h : SnB w0 gs g cs W) (i : Nat) (v : Value) (hv : cs[i]? = some v) : W.cell? ⟨gs, i, none⟩ = some v := by
  obtain ⟨L, hk, hg, hc⟩ := h
  rw [cell_of_row W gs _ _ _ _ hc]
  exact hv
theorem SnB.free (h : SnB w0 gs g cs W) (i : Nat) : W.frozen? ⟨gs, i, none⟩ = false := by
  obtain ⟨L, hk, hg, hc⟩ := h
  exact blk_frozen hc i
theorem SnB.set (h : SnB w0 gs g cs W) (i : Nat) (v : Value) : SnB w0 gs g (cs.setIfInBounds i v) (W.setCell ⟨gs, i, none⟩ v) := by
  obtain ⟨L, hk, hg, hc⟩ := h
  obtain ⟨vv, hs⟩ := hk.r
  have hfar : ∀ k, k ≠ gs → (W.setCell ⟨gs, i, none⟩ v).heap[k]? = W.heap[k]? := fun k hk => Below.heap_setCell W _ _ k hk
  refine ⟨L, ⟨hk.bel.setCell hg _, vv, hs.move (hfar g ?_) (fun k e => hfar k ?_)⟩, hg, ?_⟩
  · rintro rfl
    rw [hs.blk] at hc
    injection hc with hc
    injection hc with _ hc
    exact absurd hc (by decide)
  · obtain ⟨_, cs', hc'⟩ := own_typed hs.row k e
    rintro rfl
    rw [hc'] at hc
    injection hc with hc
    injection hc with _ hc
    exact absurd hc (by decide)
  · exact blk_set hc i v
/-- The set takes a number. -/
theorem SnB.add (h : SnB w0 gs g cs W) (f l : Int) : Calls Try.prog 17 #[.pointer (some ⟨g, 0, none⟩), .int .i64 f, .int .i64 l] W fun e w' => ∃ x, e = .returned (.int .i64 x) ∧ SnB w0 gs g cs w' ∧ Below w0.heap.size W w' ∧ ∀ k, k < W.heap.size → (∃ v t, W.heap[k]? = some (.cells #[v] t (0, 0)) ∧ t ≠ 39 ∧ t ≠ 60) → w'.heap[k]? = W.heap[k]? := by
  obtain ⟨L, hk, hg, hc⟩ := h
  obtain ⟨vv, hs⟩ := hk.r
  refine (add_s hs hk.bel.size f l).mono ?_
  rintro e w' ⟨v', rfl, hs', hl⟩
  refine ⟨_, rfl, ⟨_, ⟨hk.bel.trans hl.below, v', hs'⟩, hg, (hl.kept gs (Array.getElem?_eq_some_iff.1 hc).1 ?_ ?_).trans hc⟩, hl.below, ?_⟩
  · rintro rfl
    rw [hs.blk] at hc
    injection hc with hc
    injection hc with _ hc
    exact absurd hc (by decide)
  · intro e
    obtain ⟨_, cs', hc'⟩ := own_typed hs.row _ e
    rw [hc'] at hc
    injection hc with hc
    injection hc with _ hc
    exact absurd hc (by decide)
  · rintro k hk ⟨v, t, hv, h1, h2⟩
    refine hl.kept k hk ?_ ?_
    · rintro rfl
      rw [hs.blk] at hv
      injection hv with hv
      injection hv with _ hv
      exact h2 hv.symm
    · intro e
      obtain ⟨_, cs', hc'⟩ := own_typed hs.row _ e
      rw [hc'] at hv
      injection hv with hv
      injection hv with _ hv
      exact h1 hv.symm
theorem SnB.has (h : SnB w0 gs g cs W) (n : Int) (hn : n ≤ 9223372036854775807) : Calls Try.prog 18 #[.pointer (some ⟨g, 0, none⟩), .int .i64 n] W fun e w' => ∃ b, e = .returned (.bool b) ∧ Below W.heap.size W w' := by
  obtain ⟨L, hk, hg, hc⟩ := h
  obtain ⟨vv, hs⟩ := hk.r
  refine (has_s hs n hn).mono ?_
  rintro e w' ⟨rfl, hb⟩
  exact ⟨_, rfl, hb⟩
theorem eqf_no {P : Program} {d : Nat} {xs ys : Array Value} {f : Field} {fs : List Field} {a b : Value} {w : World} (hn : (f.name == "_") = false) (ha : (part f.type xs f.offset).run P w = .ok a w) (hb : (part f.type ys f.offset).run P w = .ok b w) (he : (Op.equalIn d f.type a b).run P w = .ok false w) : (Op.eqFields d xs ys (f :: fs)).run P w = .ok false w := by
  have hn' : f.name ≠ "_" := by simpa using hn
  rw [Op.eqFields]
  simp only [if_pos hn', Sem.run_bind, ha, hb, he, Result.andThen_ok]
  simp
set_option maxRecDepth 100000 in
theorem eq_sn (g : Nat) (dl gr cm nw wt du : Int) (is : Bool) (W : World) : (binOp .eql 79 (.agg (sn g dl gr cm nw wt du is)) (.agg #[.int .i64 0, .pointer none, .int .i64 0, .int .i64 0, .int .i64 0, .int .i64 0, .int .i64 0, .int .i64 0, .bool false])).run Try.prog W = .ok (.bool false) W := by
  rw [run_eql_struct]
  have he : (Op.equalIn 10000 79 (.agg (sn g dl gr cm nw wt du is)) (.agg #[.int .i64 0, .pointer none, .int .i64 0, .int .i64 0, .int .i64 0, .int .i64 0, .int .i64 0, .int .i64 0, .bool false])).run Try.prog W = .ok false W := by
    refine eqA_of Try.underlying79 (by kernel_rfl) ?_
    have hb : (dl == 0 && false) = false := by simp
    rw [← hb]
    refine eqf_cons (by rfl) (by kernel_rfl) (by kernel_rfl) (run_equalIn_int (k := .i64) (k' := .i64) _ _ _ _ _ Try.underlying3) ?_
    refine eqf_no (by rfl) (a := .pointer (some ⟨g, 0, none⟩)) (b := .pointer none) (by kernel_rfl) (by kernel_rfl) (by kernel_rfl)
  rw [he]
  rfl
end Go.Proofs.Ytmkojmjjlcfohaa.Rg
