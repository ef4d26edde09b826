/- The paths: what lives through a store at another block. -/
import Derived.Test.YtpilpgdlgkndmaaPath4
set_option linter.unusedVariables false
set_option linter.unusedSimpArgs false
namespace Go.Proofs.Ytpilpgdlgkndmaa.Pm
open Go.RowKit Go.Maps
theorem Pth.ne_map {w : World} {p m n g : Nat} {D : DataW Unit} {v : Bool} {c s : Int} (h : Pth w p m n D) (o : One w g v c s) : g ≠ m := by
  rintro rfl
  obtain ⟨es, clock, hb, _⟩ := h.own
  have := o.c0
  simp [World.cell?, hb] at this
theorem Pth.ne_p {w : World} {p m n g : Nat} {D : DataW Unit} {v : Bool} {c s : Int} (h : Pth w p m n D) (o : One w g v c s) : g ≠ p := by
  rintro rfl
  have := o.c0
  rw [h.c0] at this
  simp at this
theorem Pth.setCell {w : World} {p m n g : Nat} {D : DataW Unit} {v : Bool} {c s : Int} (h : Pth w p m n D) (o : One w g v c s) (i : Nat) (u : Value) : Pth (w.setCell ⟨g, i, none⟩ u) p m n D := by
  have h1 := h.ne_map o
  have h2 := h.ne_p o
  obtain ⟨es, clock, hb, hr⟩ := h.own
  exact ⟨(World.cell?_of_block (w := w) (Below.heap_setCell w ⟨g, i, none⟩ u p (fun e => h2 e.symm))).trans h.c0, es, clock, (Below.heap_setCell w ⟨g, i, none⟩ u m (fun e => h1 e.symm)).trans hb, hr⟩
theorem Pth.drewN {w : World} {p m n : Nat} {D : DataW Unit} (h : Pth w p m n D) (j : Nat) : Pth (w.drewN j) p m n D := ⟨h.c0, h.own⟩
theorem One.drewN {w : World} {g : Nat} {v : Bool} {c s : Int} (o : One w g v c s) (j : Nat) : One (w.drewN j) g v c s := ⟨o.c0, o.c1, o.c2, o.z0, o.z2⟩
theorem One.setOther {w : World} {g k : Nat} {v : Bool} {c s : Int} (o : One w g v c s) (hne : g ≠ k) (i : Nat) (u : Value) : One (w.setCell ⟨k, i, none⟩ u) g v c s := o.of_block (Below.heap_setCell w ⟨k, i, none⟩ u g hne)
theorem One.setSent {w : World} {g : Nat} {v : Bool} {c s : Int} (o : One w g v c s) (b : Int) : One (w.setCell ⟨g, 2, none⟩ (.int .i64 b)) g v c b := by
  obtain ⟨c0, c1, c2, z0, z2⟩ := o
  constructor <;> go_simp
theorem One.setValid {w : World} {g : Nat} {v : Bool} {c s : Int} (o : One w g v c s) : One (w.setCell ⟨g, 0, none⟩ (.bool true)) g true c s := by
  obtain ⟨c0, c1, c2, z0, z2⟩ := o
  constructor <;> go_simp
end Go.Proofs.Ytpilpgdlgkndmaa.Pm
