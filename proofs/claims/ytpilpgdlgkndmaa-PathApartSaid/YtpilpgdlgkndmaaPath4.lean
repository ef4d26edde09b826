import Derived.Test.YtpilpgdlgkndmaaPath3
set_option linter.unusedVariables false
set_option linter.unusedSimpArgs false
namespace Go.Proofs.Ytpilpgdlgkndmaa.Pm
open Go.RowKit Go.Maps
set_option maxRecDepth 100000 in
/-- Came at a new address. -/
theorem came_new {w : World} {p m n : Nat} {D : DataW Unit} (h : Pth w p m n D) (k : Int) (hk : keyOf Try.prog 3 (.int .i64 k) = some (.int .i64 k)) (hat : ∀ zd, D.atKey (.int .i64 k) zd = zd) (hn : n < 1000) (l : Int) (hl : l < 4) (hlen : ∀ W : World, W.ownsMap Try.prog 3 ptrElem m n D → (Builtin.len_ #[92] 3 #[.map (some m)]).run Try.prog W = .ok (.int .i64 l) W) (b : Int) (b0 : 0 ≤ b) (b1 : b ≤ 1125899906842624) :
    Calls Try.prog 23 #[.pointer (some ⟨p, 0, none⟩), .int .i64 k, .int .i64 b] w fun e w' => e = .returned (.tuple #[.bool true, .int .i64 0]) ∧ Pth w' p m (n + 1) (D.put (.int .i64 k) (.lit (.int .i64 w.heap.size))) ∧ One w' w.heap.size false b 0 ∧ w.heap.size < w'.heap.size ∧ (∀ i, i < w.heap.size → i ≠ m → w'.heap[i]? = w.heap[i]?) ∧ Below m w w' := by
  have H := Aside0.mk (at_miss h k hk hat)
  have hL := hlen w h.own
  have c0 := h.c0
  have hd : decide (l ≥ 4) = false := decide_eq_false (by omega)
  have hown := h.own.alloc (.cells #[.bool false, .int .i64 b, .int .i64 0, .slice none 0 0] 91)
  obtain ⟨w1, hrun, hown1, hg⟩ := hown.update law Try.underlying92 (by unfold maxLen; omega) hk (ptr_reads w.heap.size)
  have hpm : p ≠ m := by
    rintro rfl
    obtain ⟨es, clock, hb, _⟩ := h.own
    have := h.c0
    simp [World.cell?, hb] at this
  have hplt : p < w.heap.size := World.block_lt_of_cell? w _ h.c0
  have hmlt := h.own.lt
  have ho : One (w.alloc (.cells #[.bool false, .int .i64 b, .int .i64 0, .slice none 0 0] 91)) w.heap.size false b 0 := by constructor <;> go_simp
  have ho1 : One w1 w.heap.size false b 0 := ho.of_block (hg.block _ ho.lt (by intro he; injection he with he; omega))
  have hkeep : ∀ i, i < w.heap.size → i ≠ m → w1.heap[i]? = w.heap[i]? := fun i hi hne => (hg.block i (by simp; omega) (by intro he; injection he with he; exact hne he)).trans (Below.heap_alloc _ _ _ hi)
  have hp1 : Pth w1 p m (n + 1) (D.put (.int .i64 k) (.lit (.int .i64 w.heap.size))) := ⟨(World.cell?_of_block (w := w) (hkeep p hplt hpm)).trans h.c0, hown1⟩
  have hsz : w.heap.size < w1.heap.size := by have := hg.size; simp at this; omega
  have hbl : Below m w w1 := Below.grown ((Below.refl _ _).alloc (Nat.le_of_lt hmlt) _) hg (by simp; omega) (by intro k hk; injection hk with hk; omega)
  have HA := Aside0.mk (And.intro hp1 (And.intro ho1 (And.intro hsz (And.intro hkeep hbl))))
  clear hbl hp1 ho1 hsz hkeep ho hown hown1 hg hlen h hat hk hpm
  go_enter Try.func23, Try.ntmps23
  go_wp2_with (first
    | (go_at_call 42; refine H.out.mono ?_; rintro e w' ⟨rfl, hw⟩; rw [hw]; clear hw)
    | (go_at_call 43; refine (lies_in b b0 b1 _).mono ?_; rintro e w' ⟨rfl, hw⟩; rw [hw]; clear hw))
  go_ret2
  exact ⟨rfl, HA.out⟩
end Go.Proofs.Ytpilpgdlgkndmaa.Pm
