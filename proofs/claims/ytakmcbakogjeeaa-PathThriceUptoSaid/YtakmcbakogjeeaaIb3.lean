/- Boxes (layer 6): Put on a box without pieces; no condition. -/
import Derived.Test.YtakmcbakogjeeaaIb2
set_option linter.unusedVariables false
set_option linter.unusedSimpArgs false
namespace Go.Proofs.Ytakmcbakogjeeaa.Ib
open Go Go.RowKit Go.Maps Go.Proofs.Ytakmcbakogjeeaa.Rm
open Go.Proofs.YtakmcbakogjeeaaW.PrintWords Go.Proofs.YtakmcbakogjeeaaW.PrintLast Go.Proofs.YtakmcbakogjeeaaW.PrintMore
variable {W W' : World} {b g m n : Nat} {D : Nat → Prop} {h : Hd} {kv : KV}
set_option maxRecDepth 100000 in
set_option maxHeartbeats 3200000 in
/-- A piece that is refused. -/
theorem put_bad (x : BoxAt W b g m n h kv) (off : Int) (A : Option Addr) (len cap : Nat) (fin : Bool) (h0 : 0 ≤ off) (h1 : off ≤ 4611686018427387903 - len) (hl : len ≤ 140737488355328) (v : Int) (hv : endsV h (off + len) fin = v) (hv0 : v ≠ 0) (hbw : b ≤ W.heap.size) :
    Calls Try.prog 19 #[.pointer (some ⟨g, 0, none⟩), .int .i64 off, .slice A len cap, .bool fin] W fun e w' => e = .returned (.int .i64 v) ∧ Below W.heap.size W w' := by
  have X := Aside0.mk x
  have hvb : (v == 0) = false := by simp [hv0]
  clear x
  go_enter Try.func19, Try.ntmps19
  go_upto_region 1 with fail
  have hb : Below W.heap.size W (((W.alloc (.cells #[.pointer (some ⟨g, 0, none⟩)] 23)).alloc (.cells #[.int .i64 off] 3)).alloc (.cells #[.slice A len cap] 22)) := ((below_alloc (Below.refl _ W) _).alloc (by simp) _).alloc (by simp; omega) _
  have hx := X.out.below hb
  have CE := Aside0.mk (ends_s hx (off + len) fin)
  rw [hv] at CE
  have CN := Aside0.mk (none_s hx)
  have HB := Aside0.mk hb
  clear hb hx hv
  go_wp2_with (first
    | (go_at_call 74; refine CN.out.mono ?_; rintro e w' ⟨rfl, rfl⟩)
    | (go_at_call 75; refine CE.out.mono ?_; rintro e w' ⟨rfl, rfl⟩))
  go_ret
  exact ⟨rfl, HB.out⟩
theorem ButM.below (hx : ButM W W' m) (hm : b ≤ m) (hb : b ≤ W.heap.size) : Below b W W' := ⟨hx.os, hx.tape, hx.output, hx.size, fun k hk => hx.block k (by omega) (by omega)⟩
theorem add_blk (ad : Addr) (i : Nat) : (ad.add i).block = ad.block := by unfold Addr.add; split <;> rfl
theorem upto_no {ab db ob bb : Nat} {at_ : Int} (ha : Boxed W ab 3 (.int .i64 at_)) (stop : Int) (h2 : stop ≤ at_) :
    Calls Try.prog 76 #[.int .i64 stop, .pointer (some ⟨ab, 0, none⟩), .pointer (some ⟨db, 0, none⟩), .pointer (some ⟨ob, 0, none⟩), .pointer (some ⟨bb, 0, none⟩)] W fun e w' => e = .returned (.tuple #[]) ∧ W = w' := by
  have ea := ha.cell
  clear ha
  go_enter Try.func76, Try.ntmps76
  go_wp2_with fail
  go_end0
  exact ⟨rfl, rfl⟩
theorem run_max (x y : Int) (W : World) : (Builtin.max_ #[3, 3] 3 #[.int .i64 x, .int .i64 y]).run Try.prog W = .ok (.int .i64 (max x y)) W := by
  have h : (if x < y then y else x) = max x y := by split <;> omega
  rw [← h]
  simp [Builtin.max_, Builtin.max2, go_sem]
set_option maxRecDepth 100000 in
set_option maxHeartbeats 3200000 in
/-- A piece taken by a box that holds none. -/
theorem put_e (x : BoxAt W b g m n h []) (off : Int) (A : Option Addr) (len cap : Nat) (fin : Bool) (h0 : 0 ≤ off) (h1 : off ≤ 4611686018427387903 - len) (hl : len ≤ 140737488355328) (hv : endsV h (off + len) fin = 0) (hp : h.place ≤ off) (hp0 : 0 ≤ h.place) (hr0 : 0 ≤ h.reach) (hr1 : h.reach ≤ 4611686018427387903) (hbw : b ≤ W.heap.size) (hn : n < maxLen)
    (hcap : len ≤ cap) (xs : List Int) (hxs : xs.length = len) (hA : 0 < len → ∃ ad, A = some ad ∧ ad.block < b ∧ ∀ i u, xs[i]? = some u → W.cell? (ad.add i) = some (.int .u8 u)) :
    Calls Try.prog 19 #[.pointer (some ⟨g, 0, none⟩), .int .i64 off, .slice A len cap, .bool fin] W fun e w' => e = .returned (.int .i64 0) ∧ Below b W w' := by
  have X := Aside0.mk x
  clear x
  have m1 := run_max h.reach (off + len)
  have m2 := run_max off h.place
  obtain ⟨rc, hrc⟩ : ∃ rc, max h.reach (off + len) = rc := ⟨_, rfl⟩
  rw [hrc] at m1
  rw [show max off h.place = off by omega] at m2
  clear hrc
  go_enter Try.func19, Try.ntmps19
  go_upto_region 1 with fail
  obtain ⟨B0, hB0⟩ : ∃ B0, W.heap.size = B0 := ⟨_, rfl⟩
  have hb : Below W.heap.size W (((W.alloc (.cells #[.pointer (some ⟨g, 0, none⟩)] 23)).alloc (.cells #[.int .i64 off] 3)).alloc (.cells #[.slice A len cap] 22)) := ((below_alloc (Below.refl _ W) _).alloc (by simp) _).alloc (by simp; omega) _
  have b1 : Boxed (((W.alloc (.cells #[.pointer (some ⟨g, 0, none⟩)] 23)).alloc (.cells #[.int .i64 off] 3)).alloc (.cells #[.slice A len cap] 22)) B0 23 (.pointer (some ⟨g, 0, none⟩)) := by rw [← hB0]; exact ((Boxed.new W _ _).alloc _).alloc _
  have b2 : Boxed (((W.alloc (.cells #[.pointer (some ⟨g, 0, none⟩)] 23)).alloc (.cells #[.int .i64 off] 3)).alloc (.cells #[.slice A len cap] 22)) (B0 + 1) 3 (.int .i64 off) := by
    have h := (Boxed.new (W.alloc (.cells #[.pointer (some ⟨g, 0, none⟩)] 23)) 3 (.int .i64 off)).alloc (.cells #[.slice A len cap] 22)
    rw [World.size_alloc, hB0] at h
    exact h
  have b3 : Boxed (((W.alloc (.cells #[.pointer (some ⟨g, 0, none⟩)] 23)).alloc (.cells #[.int .i64 off] 3)).alloc (.cells #[.slice A len cap] 22)) (B0 + 2) 22 (.slice A len cap) := by
    have h := Boxed.new ((W.alloc (.cells #[.pointer (some ⟨g, 0, none⟩)] 23)).alloc (.cells #[.int .i64 off] 3)) 22 (.slice A len cap)
    rw [World.size_alloc, World.size_alloc, hB0] at h
    exact h
  obtain ⟨W0, hW0⟩ : ∃ W0, (((W.alloc (.cells #[.pointer (some ⟨g, 0, none⟩)] 23)).alloc (.cells #[.int .i64 off] 3)).alloc (.cells #[.slice A len cap] 22)) = W0 := ⟨_, rfl⟩
  rw [hW0] at hb b1 b2 b3 ⊢
  rw [hB0]
  clear hW0
  have n0 := Aside0.mk (X.out.below hb)
  have X0 : Aside0 (g < B0) := ⟨by have := X.out.lt; omega⟩
  clear X
  have X := n0
  clear n0
  have CE := Aside0.mk (ends_s X.out (off + len) fin)
  rw [hv] at CE
  have CN := Aside0.mk (none_s X.out)
  have HB := Aside0.mk hb
  have B1 := Aside0.mk b1
  have B2 := Aside0.mk b2
  have B3 := Aside0.mk b3
  have HA := Aside0.mk hA
  have e1 := b1.cell
  have e2 := b2.cell
  have e3 := b3.cell
  obtain ⟨c0, c1, c2, c3, c4, c5, c6, c7⟩ := X.out.c
  have f4 := X.out.free 4
  have f5 := X.out.free 5
  have f6 := X.out.free 6
  clear hb b1 b2 b3 hA hv hB0
  go_wp2_with (first
    | (go_at_call 74; refine CN.out.mono ?_; rintro e w' ⟨rfl, rfl⟩)
    | (go_at_call 75; refine CE.out.mono ?_; rintro e w' ⟨rfl, rfl⟩))
  go_region
  have y1 := (X.out.put 4 (.int .i64 rc) { h with reach := rc } rfl)
  have hgx := X.out.hg
  have hb1 : Below b W0 (W0.setCell ⟨g, 4, none⟩ (.int .i64 rc)).drew := ((Below.refl b W0).setCell (p := ⟨g, 4, none⟩) hgx _).drew
  have hx1 : BoxAt (W0.setCell ⟨g, 4, none⟩ (.int .i64 rc)).drew b g m n { h with reach := rc } [] := ⟨y1.hg, y1.hm, y1.blk, y1.mp.drew⟩
  have far1 : ∀ k, k ≠ g → (W0.setCell ⟨g, 4, none⟩ (.int .i64 rc)).drew.heap[k]? = W0.heap[k]? := fun k hk => Below.heap_setCell W0 ⟨g, 4, none⟩ (.int .i64 rc) k hk
  obtain ⟨W1, hW1⟩ : ∃ W1, (W0.setCell ⟨g, 4, none⟩ (.int .i64 rc)).drew = W1 := ⟨_, rfl⟩
  rw [hW1] at hb1 hx1 far1 ⊢
  have hg0 : g < B0 := by have := X0.out; omega
  have n1 := Aside0.mk (show Boxed W1 B0 23 (.pointer (some ⟨g, 0, none⟩)) from (far1 B0 (by omega)).trans B1.out)
  have n2 := Aside0.mk (show Boxed W1 (B0 + 1) 3 (.int .i64 off) from (far1 (B0 + 1) (by omega)).trans B2.out)
  have n3 := Aside0.mk (show Boxed W1 (B0 + 2) 22 (.slice A len cap) from (far1 (B0 + 2) (by omega)).trans B3.out)
  have hb1' := Aside0.mk hb1
  have HB1 := hb1'
  clear X CN CE B1 B2 B3 e1 e2 e3 c0 c1 c2 c3 c4 c5 c6 c7 f4 f5 f6 y1 far1 hW1 m1
  have X := Aside0.mk hx1
  have B1 := n1
  have B2 := n2
  have B3 := n3
  clear hx1 n1 n2 n3 hb1
  have e1 := B1.out.cell
  have e2 := B2.out.cell
  have e3 := B3.out.cell
  obtain ⟨c0, c1, c2, c3, c4, c5, c6, c7⟩ := X.out.c
  have f4 := X.out.free 4
  have f5 := X.out.free 5
  have f6 := X.out.free 6
  simp only at c1 c2 c3 c4 c5 c6
  cases fin with
  | true =>
    go_upto_region 11 with fail
    go_region
    have y2 := (X.out.put 6 (.bool true) { h with reach := rc, known := true } rfl).put 5 (.int .i64 (off + len)) { h with reach := rc, known := true, final := off + len } rfl
    have hb2 : Below b W1 ((W1.setCell ⟨g, 6, none⟩ (.bool true)).setCell ⟨g, 5, none⟩ (.int .i64 (off + len))).drew := (((Below.refl b W1).setCell (p := ⟨g, 6, none⟩) hgx _).setCell (p := ⟨g, 5, none⟩) hgx _).drew
    have hx2 : BoxAt ((W1.setCell ⟨g, 6, none⟩ (.bool true)).setCell ⟨g, 5, none⟩ (.int .i64 (off + len))).drew b g m n { h with reach := rc, known := true, final := off + len } [] := ⟨y2.hg, y2.hm, y2.blk, y2.mp.drew⟩
    have far2 : ∀ k, k ≠ g → ((W1.setCell ⟨g, 6, none⟩ (.bool true)).setCell ⟨g, 5, none⟩ (.int .i64 (off + len))).drew.heap[k]? = W1.heap[k]? := fun k hk => (Below.heap_setCell _ ⟨g, 5, none⟩ (.int .i64 (off + len)) k hk).trans (Below.heap_setCell W1 ⟨g, 6, none⟩ (.bool true) k hk)
    obtain ⟨W2, hW2⟩ : ∃ W2, ((W1.setCell ⟨g, 6, none⟩ (.bool true)).setCell ⟨g, 5, none⟩ (.int .i64 (off + len))).drew = W2 := ⟨_, rfl⟩
    rw [hW2] at hb2 hx2 far2 ⊢
    have n1 := Aside0.mk (show Boxed W2 B0 23 (.pointer (some ⟨g, 0, none⟩)) from (far2 B0 (by omega)).trans B1.out)
    have n2 := Aside0.mk (show Boxed W2 (B0 + 1) 3 (.int .i64 off) from (far2 (B0 + 1) (by omega)).trans B2.out)
    have n3 := Aside0.mk (show Boxed W2 (B0 + 2) 22 (.slice A len cap) from (far2 (B0 + 2) (by omega)).trans B3.out)
    have n4 := Aside0.mk (hb1'.out.trans hb2)
    clear X B1 B2 B3 e1 e2 e3 c0 c1 c2 c3 c4 c5 c6 c7 f4 f5 f6 y2 far2 hW2
    have X := Aside0.mk hx2
    have B1 := n1
    have B2 := n2
    have B3 := n3
    have HB1 := n4
    clear hx2 n1 n2 n3 n4 hb2
    have e1 := B1.out.cell
    have e2 := B2.out.cell
    have e3 := B3.out.cell
    obtain ⟨c0, c1, c2, c3, c4, c5, c6, c7⟩ := X.out.c
    have f4 := X.out.free 4
    have f5 := X.out.free 5
    have f6 := X.out.free 6
    simp only at c1 c2 c3 c4 c5 c6
    have a1 := (B1.out.alloc (.cells #[.int .i64 0] 3)).cell
    have a2 := (B2.out.alloc (.cells #[.int .i64 0] 3)).cell
    have a3 := (X.out.below (below_alloc (Below.refl _ _) (.cells #[.int .i64 0] 3))).c.2.2.1
    simp only at a3
    go_upto_region 12 with fail
    go_region
    obtain ⟨AB, hAB⟩ : ∃ AB, W2.heap.size = AB := ⟨_, rfl⟩
    have hab : Boxed (W2.alloc (.cells #[.int .i64 off] 3)).drew AB 3 (.int .i64 off) := by rw [← hAB]; exact Boxed.new W2 _ _
    have hba : Below W2.heap.size W2 (W2.alloc (.cells #[.int .i64 off] 3)).drew := (below_alloc (Below.refl _ W2) _).drew
    rw [hAB]
    obtain ⟨Wa, hWa⟩ : ∃ Wa, (W2.alloc (.cells #[.int .i64 off] 3)).drew = Wa := ⟨_, rfl⟩
    rw [hWa] at hab hba ⊢
    clear hWa hAB a1 a2 a3
    have n0 := Aside0.mk (X.out.below hba)
    have n1 := Aside0.mk (show Boxed Wa B0 23 (.pointer (some ⟨g, 0, none⟩)) from (hba.block _ B1.out.lt).trans B1.out)
    have n2 := Aside0.mk (show Boxed Wa (B0 + 1) 3 (.int .i64 off) from (hba.block _ B2.out.lt).trans B2.out)
    have n3 := Aside0.mk (show Boxed Wa (B0 + 2) 22 (.slice A len cap) from (hba.block _ B3.out.lt).trans B3.out)
    have n4 := Aside0.mk (bl_then HB1.out (by have := X.out.hg; have := X.out.lt; omega) hba)
    clear X B1 B2 B3 HB1 e1 e2 e3 c0 c1 c2 c3 c4 c5 c6 c7 f4 f5 f6 hba
    have X := n0
    have B1 := n1
    have B2 := n2
    have B3 := n3
    have BA := Aside0.mk hab
    have HB1 := n4
    clear n0 n1 n2 n3 n4 hab
    have e1 := B1.out.cell
    go_wp2_with (go_at_call 78; refine (starts_e X.out).mono ?_; rintro e Wb ⟨rfl, hb⟩; have HBB := Aside0.mk hb; clear hb e1; have e1 := (show Boxed Wb B0 23 (.pointer (some ⟨g, 0, none⟩)) from (HBB.out.block _ B1.out.lt).trans B1.out).cell)
    go_loopw [67] (fun i W' => i = .int .i64 0 ∧ Wb = W') (fun _ _ => 0)
    case atStart => exact ⟨rfl, rfl⟩
    case round =>
      obtain ⟨rfl, rfl⟩ := hrel
      have hbb := HBB.out
      have hXb := X.out.below hbb
      have hab := (hbb.block _ BA.out.lt).trans BA.out
      have h1b := (hbb.block _ B1.out.lt).trans B1.out
      have h2b := (hbb.block _ B2.out.lt).trans B2.out
      have h3b := (hbb.block _ B3.out.lt).trans B3.out
      have hbF : Below b W Wb := (HB.out.mono hbw).trans (bl_then HB1.out (by have := X.out.hg; have := X.out.lt; omega) hbb)
      by_cases hz : 0 < len
      · obtain ⟨ad, rfl, hadb, hbytes⟩ := HA.out hz
        have CU := Aside0.mk (upto_s (D := fun _ => True) hXb xs hxs hab h3b h2b h1b (fun i u hu => (World.cell?_of_block (hbF.block _ (by rw [add_blk]; exact hadb))).trans (hbytes i u hu)) (off + len) h0 (Int.le_refl _) (by omega) (Int.le_refl _) hcap hl (by omega) hn (fun _ _ => trivial))
        have HBF := Aside0.mk hbF
        have XB := Aside0.mk hXb
        clear hXb hab h1b h2b h3b hbF hbb hbytes
        go_wp2_with (go_at_call 76; refine CU.out.mono ?_; rintro e Wc ⟨rfl, v, hx, hpc, hbm⟩; have HBM := Aside0.mk hbm; clear hx hpc hbm)
        go_ret
        exact ⟨rfl, HBF.out.trans (HBM.out.below XB.out.hm (by have := XB.out.hg; have := XB.out.lt; omega))⟩
      · have CU := Aside0.mk (upto_no (db := B0 + 2) (ob := B0 + 1) (bb := B0) hab (off + len) (by omega))
        have HBF := Aside0.mk hbF
        clear hXb hab h1b h2b h3b hbF hbb
        go_wp2_with (go_at_call 76; refine CU.out.mono ?_; rintro e Wc ⟨rfl, rfl⟩)
        go_ret
        exact ⟨rfl, HBF.out⟩
  | false =>
    have a1 := (B1.out.alloc (.cells #[.int .i64 0] 3)).cell
    have a2 := (B2.out.alloc (.cells #[.int .i64 0] 3)).cell
    have a3 := (X.out.below (below_alloc (Below.refl _ _) (.cells #[.int .i64 0] 3))).c.2.2.1
    simp only at a3
    go_upto_region 12 with fail
    go_region
    obtain ⟨AB, hAB⟩ : ∃ AB, W1.heap.size = AB := ⟨_, rfl⟩
    have hab : Boxed (W1.alloc (.cells #[.int .i64 off] 3)).drew AB 3 (.int .i64 off) := by rw [← hAB]; exact Boxed.new W1 _ _
    have hba : Below W1.heap.size W1 (W1.alloc (.cells #[.int .i64 off] 3)).drew := (below_alloc (Below.refl _ W1) _).drew
    rw [hAB]
    obtain ⟨Wa, hWa⟩ : ∃ Wa, (W1.alloc (.cells #[.int .i64 off] 3)).drew = Wa := ⟨_, rfl⟩
    rw [hWa] at hab hba ⊢
    clear hWa hAB a1 a2 a3
    have n0 := Aside0.mk (X.out.below hba)
    have n1 := Aside0.mk (show Boxed Wa B0 23 (.pointer (some ⟨g, 0, none⟩)) from (hba.block _ B1.out.lt).trans B1.out)
    have n2 := Aside0.mk (show Boxed Wa (B0 + 1) 3 (.int .i64 off) from (hba.block _ B2.out.lt).trans B2.out)
    have n3 := Aside0.mk (show Boxed Wa (B0 + 2) 22 (.slice A len cap) from (hba.block _ B3.out.lt).trans B3.out)
    have n4 := Aside0.mk (bl_then HB1.out (by have := X.out.hg; have := X.out.lt; omega) hba)
    clear X B1 B2 B3 HB1 e1 e2 e3 c0 c1 c2 c3 c4 c5 c6 c7 f4 f5 f6 hba
    have X := n0
    have B1 := n1
    have B2 := n2
    have B3 := n3
    have BA := Aside0.mk hab
    have HB1 := n4
    clear n0 n1 n2 n3 n4 hab
    have e1 := B1.out.cell
    go_wp2_with (go_at_call 78; refine (starts_e X.out).mono ?_; rintro e Wb ⟨rfl, hb⟩; have HBB := Aside0.mk hb; clear hb e1; have e1 := (show Boxed Wb B0 23 (.pointer (some ⟨g, 0, none⟩)) from (HBB.out.block _ B1.out.lt).trans B1.out).cell)
    go_loopw [67] (fun i W' => i = .int .i64 0 ∧ Wb = W') (fun _ _ => 0)
    case atStart => exact ⟨rfl, rfl⟩
    case round =>
      obtain ⟨rfl, rfl⟩ := hrel
      have hbb := HBB.out
      have hXb := X.out.below hbb
      have hab := (hbb.block _ BA.out.lt).trans BA.out
      have h1b := (hbb.block _ B1.out.lt).trans B1.out
      have h2b := (hbb.block _ B2.out.lt).trans B2.out
      have h3b := (hbb.block _ B3.out.lt).trans B3.out
      have hbF : Below b W Wb := (HB.out.mono hbw).trans (bl_then HB1.out (by have := X.out.hg; have := X.out.lt; omega) hbb)
      by_cases hz : 0 < len
      · obtain ⟨ad, rfl, hadb, hbytes⟩ := HA.out hz
        have CU := Aside0.mk (upto_s (D := fun _ => True) hXb xs hxs hab h3b h2b h1b (fun i u hu => (World.cell?_of_block (hbF.block _ (by rw [add_blk]; exact hadb))).trans (hbytes i u hu)) (off + len) h0 (Int.le_refl _) (by omega) (Int.le_refl _) hcap hl (by omega) hn (fun _ _ => trivial))
        have HBF := Aside0.mk hbF
        have XB := Aside0.mk hXb
        clear hXb hab h1b h2b h3b hbF hbb hbytes
        go_wp2_with (go_at_call 76; refine CU.out.mono ?_; rintro e Wc ⟨rfl, v, hx, hpc, hbm⟩; have HBM := Aside0.mk hbm; clear hx hpc hbm)
        go_ret
        exact ⟨rfl, HBF.out.trans (HBM.out.below XB.out.hm (by have := XB.out.hg; have := XB.out.lt; omega))⟩
      · have CU := Aside0.mk (upto_no (db := B0 + 2) (ob := B0 + 1) (bb := B0) hab (off + len) (by omega))
        have HBF := Aside0.mk hbF
        clear hXb hab h1b h2b h3b hbF hbb
        go_wp2_with (go_at_call 76; refine CU.out.mono ?_; rintro e Wc ⟨rfl, rfl⟩)
        go_ret
        exact ⟨rfl, HBF.out⟩
end Go.Proofs.Ytakmcbakogjeeaa.Ib
