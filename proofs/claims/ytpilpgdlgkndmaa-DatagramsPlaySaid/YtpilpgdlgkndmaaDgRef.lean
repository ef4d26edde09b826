/- The document's queue of datagrams: what it holds in memory, and what its methods do; no condition. -/
import Derived.Test.YtpilpgdlgkndmaaDgOnce
set_option linter.unusedVariables false
set_option linter.unusedSimpArgs false
namespace Go.Proofs.Ytpilpgdlgkndmaa.Dg
open Go.RowKit Go.Proofs.YtpilpgdlgkndmaaW.PrintWords Go.Proofs.YtpilpgdlgkndmaaW.PrintLast Go.Proofs.YtpilpgdlgkndmaaW.PrintMore Go.Proofs.Ytpilpgdlgkndmaa.Rw
structure RQue (w : World) (base g : Nat) (most room : Int) (A : Option Addr) (c : Nat) (ls : List (List Int)) : Prop where
  hg : base ≤ g
  blk : w.heap[g]? = some (.cells #[.int .i64 most, .int .i64 room, .slice A ls.length c] 74 (0, 0))
  row : WRow w base 9 1 (.slice A ls.length c) ls.length (ls.map strV)
  r0 : 0 ≤ room
  r1 : room ≤ 64
  few : (ls.length : Int) ≤ room
variable {w : World} {base g : Nat} {most room : Int} {A : Option Addr} {c : Nat} {ls : List (List Int)}
theorem RQue.c0 (h : RQue w base g most room A c ls) : w.cell? ⟨g, 0, none⟩ = some (.int .i64 most) := by rw [cell_of_row w g _ _ _ _ h.blk]; rfl
theorem RQue.c1 (h : RQue w base g most room A c ls) : w.cell? ⟨g, 1, none⟩ = some (.int .i64 room) := by rw [cell_of_row w g _ _ _ _ h.blk]; rfl
theorem RQue.c2 (h : RQue w base g most room A c ls) : w.cell? ⟨g, 2, none⟩ = some (.slice A ls.length c) := by rw [cell_of_row w g _ _ _ _ h.blk]; rfl
theorem RQue.drewN (h : RQue w base g most room A c ls) (m : Nat) : RQue (w.drewN m) base g most room A c ls := ⟨h.hg, h.blk, wr_move h.row (fun _ _ => rfl), h.r0, h.r1, h.few⟩
/-- The blocks that the document's queue may write. -/
def TchR (w : World) (k : Nat) : Prop := ∃ cells t, (t = 74 ∨ t = 9) ∧ w.heap[k]? = some (.cells cells t (0, 0))
def RLeft (w : World) (base g : Nat) (most room : Int) (ls : List (List Int)) (w' : World) : Prop := ∃ A c, RQue w' base g most room A c ls ∧ Below base w w' ∧ Kept w w' (TchR w)
theorem RLeft.drewN {w w' : World} (h : RLeft w base g most room ls w') (m : Nat) : RLeft w base g most room ls (w'.drewN m) := by
  obtain ⟨A, c, h1, h2, h3⟩ := h
  exact ⟨A, c, h1.drewN m, pw_below_drewN h2 m, h3.drewN m⟩
theorem RLeft.of_drewN {w w' : World} {m : Nat} (h : RLeft (w.drewN m) base g most room ls w') : RLeft w base g most room ls w' := by
  obtain ⟨A, c, h1, h2, h3⟩ := h
  exact ⟨A, c, h1, ⟨h2.os, h2.tape, h2.output, h2.size, h2.block⟩, h3⟩
theorem rnew_bad (most room : Int) (w : World) (h : most < 0 ∨ most > 65535 ∨ room < 0 ∨ room > 64) :
    Calls Try.prog 26 #[.int .i64 most, .int .i64 room] w fun e w' => e = .returned (.tuple #[.pointer none, .int .i64 2]) ∧ w = w' := by
  by_cases h1 : most < 0
  · go_enter Try.func26, Try.ntmps26
    go_wp2
    go_ret2
    exact ⟨rfl, rfl⟩
  by_cases h2 : most > 65535
  · go_enter Try.func26, Try.ntmps26
    go_wp2
    go_ret2
    exact ⟨rfl, rfl⟩
  by_cases h3 : room < 0
  · go_enter Try.func26, Try.ntmps26
    go_wp2
    go_ret2
    exact ⟨rfl, rfl⟩
  · have h4 : room > 64 := by omega
    go_enter Try.func26, Try.ntmps26
    go_wp2
    go_ret2
    exact ⟨rfl, rfl⟩
theorem rnew_good (most room : Int) (w : World) (h0 : 0 ≤ most) (h1 : most ≤ 65535) (h2 : 0 ≤ room) (h3 : room ≤ 64) :
    Calls Try.prog 26 #[.int .i64 most, .int .i64 room] w fun e w' => e = .returned (.tuple #[.pointer (some ⟨w.heap.size, 0, none⟩), .int .i64 0]) ∧ w' = w.alloc (.cells #[.int .i64 most, .int .i64 room, .slice none 0 0] 74) := by
  go_enter Try.func26, Try.ntmps26
  go_wp2
  go_ret2
  exact ⟨rfl, rfl⟩
theorem rnew_que (most room : Int) (w : World) (h2 : 0 ≤ room) (h3 : room ≤ 64) (b : Nat) (hb : b ≤ w.heap.size) : RQue (w.alloc (.cells #[.int .i64 most, .int .i64 room, .slice none 0 0] 74)) b w.heap.size most room none 0 [] :=
  ⟨hb, heap_alloc_new w _, wr_nil _ _ _ _, h2, h3, by simpa using h2⟩
theorem RQue.row_ne (h : RQue w base g most room A c ls) : some g ≠ (Value.slice A ls.length c).ownBlock := fun he => by
  obtain ⟨_, cells, hc⟩ := wr_typed h.row g he.symm
  exact ty_ne hc h.blk (by decide) rfl
/-- The oldest is gone. -/
theorem RQue.popped {l : List Int} {rest : List (List Int)} (h : RQue w base g most room A c (l :: rest)) :
    RLeft w base g most room rest (w.setCell ⟨g, 2, none⟩ (.slice (if c = 1 then A else A.map (·.add 1)) rest.length (c - 1))) := by
  have hrm := wr_room h.row
  have hrow := wr_cut (lo := 1) (hi := rest.length + 1) (cp := c) h.row (by omega) (by simp) (by have := hrm.2.1; simpa using this) (Nat.le_refl _)
  have hd : List.take ((rest.length + 1 - 1) * 1) (List.drop (1 * 1) (List.map strV (l :: rest))) = rest.map strV := by
    rw [Nat.mul_one, Nat.add_sub_cancel, Nat.mul_one, List.map_cons, List.drop_succ_cons, List.drop_zero]
    exact List.take_of_length_le (by simp)
  rw [hd, Nat.add_sub_cancel, Nat.one_mul] at hrow
  have hne : ∀ k, (Value.slice (if c = 1 then A else A.map (·.add 1)) rest.length (c - 1)).ownBlock = some k → k ≠ g := fun k hk => by
    obtain ⟨_, cells, hc⟩ := wr_typed hrow k hk
    exact ty_ne hc h.blk (by decide)
  refine ⟨_, _, ⟨h.hg, ?_, wr_move hrow (fun k hk => Below.heap_setCell w _ _ k (hne k hk)), h.r0, h.r1, by have := h.few; simp at this; omega⟩, (Below.refl _ w).setCell h.hg _, ⟨by simp [World.setCell], fun k hk hn => Below.heap_setCell w _ _ k ?_⟩⟩
  · exact blk_set h.blk 2 _
  · rintro rfl
    exact hn ⟨_, _, .inl rfl, h.blk⟩
/-- One more behind. -/
theorem RQue.pushed {W w2 : World} {A1 : Option Addr} {c1 : Nat} {l : List Int} (h : RQue w base g most room A c ls) (hW : Below w.heap.size w W) (hg : W.grownBy w2 (Value.slice A ls.length c).ownBlock)
    (hrow : WRow w2 base 9 1 (.slice A1 (ls.length + 1) c1) (ls.length + 1) ((ls ++ [l]).map strV)) (hfew : ((ls.length + 1 : Nat) : Int) ≤ room) (hbase : base ≤ w.heap.size) :
    RLeft w base g most room (ls ++ [l]) (w2.setCell ⟨g, 2, none⟩ (.slice A1 (ls.length + 1) c1)) := by
  have hlen : (ls ++ [l]).length = ls.length + 1 := by simp
  have hbW : W.heap[g]? = some (.cells #[.int .i64 most, .int .i64 room, .slice A ls.length c] 74 (0, 0)) := (hW.block g (blk_lt h.blk)).trans h.blk
  have hrowty : ∀ k, (Value.slice A ls.length c).ownBlock = some k → base ≤ k ∧ ∃ cells, w.heap[k]? = some (.cells cells 9 (0, 0)) := fun k hk => wr_typed h.row k hk
  have hb2 : w2.heap[g]? = some (.cells #[.int .i64 most, .int .i64 room, .slice A ls.length c] 74 (0, 0)) := blk_grown hbW hg h.row_ne
  have hfar : ∀ k, k ≠ g → (w2.setCell ⟨g, 2, none⟩ (.slice A1 (ls.length + 1) c1)).heap[k]? = w2.heap[k]? := fun k hk => Below.heap_setCell w2 _ _ k hk
  have hs1 : w.heap.size ≤ W.heap.size := hW.size
  have hsz : w.heap.size ≤ w2.heap.size := Nat.le_trans hW.size hg.size
  have hss : (w2.setCell ⟨g, 2, none⟩ (.slice A1 (ls.length + 1) c1)).heap.size = w2.heap.size := by simp [World.setCell]
  refine ⟨A1, c1, ⟨h.hg, ?_, ?_, h.r0, h.r1, by rw [hlen]; exact hfew⟩, ?_, ⟨by rw [hss]; exact hsz, fun k hk hn => ?_⟩⟩
  · rw [hlen]
    exact blk_set hb2 2 _
  · rw [hlen]
    refine wr_move hrow (fun k hk => hfar k ?_)
    obtain ⟨_, cells, hc⟩ := wr_typed hrow k hk
    exact ty_ne hc hb2 (by decide)
  · have hbw2 : Below base w w2 := ⟨hg.os.trans hW.os, hg.tape.trans hW.tape, hg.output.trans hW.output, hsz, fun k hk => (hg.block k (by omega) (fun he => by have := (hrowty k he.symm).1; omega)).trans (hW.block k (by omega))⟩
    exact hbw2.setCell h.hg _
  · have hkg : k ≠ g := by
      rintro rfl
      exact hn ⟨_, _, .inl rfl, h.blk⟩
    have hkr : some k ≠ (Value.slice A ls.length c).ownBlock := fun he => by
      obtain ⟨_, cells, hc⟩ := hrowty k he.symm
      exact hn ⟨_, _, .inr rfl, hc⟩
    exact ((hfar k hkg).trans (hg.block k (Nat.lt_of_lt_of_le hk hW.size) hkr)).trans (hW.block k hk)
end Go.Proofs.Ytpilpgdlgkndmaa.Dg
namespace Go.Proofs.Ytpilpgdlgkndmaa.Dg
open Go.RowKit Go.Proofs.YtpilpgdlgkndmaaW.PrintWords Go.Proofs.YtpilpgdlgkndmaaW.PrintLast Go.Proofs.YtpilpgdlgkndmaaW.PrintMore Go.Proofs.Ytpilpgdlgkndmaa.Rw
variable {w : World} {base g : Nat} {most room : Int} {A : Option Addr} {c : Nat} {ls : List (List Int)}
theorem strN_size (l : List Int) : (strOfNums l).size = l.length := by simp [strOfNums, ByteArray.size]
theorem rfirst_q (h : RQue w base g most room A c ls) :
    Calls Try.prog 31 #[.pointer (some ⟨g, 0, none⟩)] w fun e w' => e = .returned (.int .i64 ((ls.map (·.length)).headD 0 : Nat)) ∧ w = w' := by
  have c2 := h.c2
  have H := Aside0.mk h
  cases ls with
  | nil =>
    clear h
    simp only [List.length_nil] at c2
    go_enter Try.func31, Try.ntmps31
    go_wp2
    go_ret
    exact ⟨rfl, rfl⟩
  | cons l rest =>
    obtain ⟨A', c', e1, _, hA⟩ := wr_slice h.row
    obtain ⟨g1, off, rfl⟩ := hA (by simp)
    injection e1 with e1 e2 e3
    subst e1; subst e3
    have hc := (wr_cell h.row 0 (.string (strOfNums l)) rfl).1
    have hsz := strN_size l
    clear h e2
    simp only [List.length_cons] at c2
    rw [Nat.add_zero] at hc
    obtain ⟨n, hn⟩ : ∃ n, n = rest.length + 1 := ⟨_, rfl⟩
    rw [← hn] at c2
    have hp : (0 : Int) < (n : Int) := by omega
    have hz1 : ((n : Int) == 0) = false := beq_eq_false_iff_ne.mpr (by omega)
    clear hn
    go_enter Try.func31, Try.ntmps31
    go_wp2
    go_ret
    exact ⟨rfl, rfl⟩
theorem rnext_none (h : RQue w base g most room A c []) (m : Int) :
    Calls Try.prog 30 #[.pointer (some ⟨g, 0, none⟩), .int .i64 m] w fun e w' => e = .returned (.tuple #[.string ⟨#[]⟩, .bool false]) ∧ w = w' := by
  have c2 := h.c2
  clear h
  simp only [List.length_nil] at c2
  go_enter Try.func30, Try.ntmps30
  go_wp2
  go_ret2
  exact ⟨rfl, rfl⟩
theorem rnext_long {l : List Int} {rest : List (List Int)} (h : RQue w base g most room A c (l :: rest)) (m : Int) (hm : m < l.length) :
    Calls Try.prog 30 #[.pointer (some ⟨g, 0, none⟩), .int .i64 m] w fun e w' => e = .returned (.tuple #[.string ⟨#[]⟩, .bool false]) ∧ w = w' := by
  have c2 := h.c2
  obtain ⟨A', c', e1, _, hA⟩ := wr_slice h.row
  obtain ⟨g1, off, rfl⟩ := hA (by simp)
  injection e1 with e1 e2 e3
  subst e1; subst e3
  have hc := (wr_cell h.row 0 (.string (strOfNums l)) rfl).1
  have hsz := strN_size l
  clear h e2
  simp only [List.length_cons] at c2
  rw [Nat.add_zero] at hc
  obtain ⟨n, hn⟩ : ∃ n, n = rest.length + 1 := ⟨_, rfl⟩
  rw [← hn] at c2
  have hp : (0 : Int) < (n : Int) := by omega
  have hz1 : ((n : Int) == 0) = false := beq_eq_false_iff_ne.mpr (by omega)
  have hl1 : decide ((l.length : Int) > m) = true := decide_eq_true hm
  clear hn
  go_enter Try.func30, Try.ntmps30
  go_wp2
  go_ret2
  exact ⟨rfl, rfl⟩
theorem rnext_pop {l : List Int} {rest : List (List Int)} (h : RQue w base g most room A c (l :: rest)) (m : Int) (hm : (l.length : Int) ≤ m) :
    Calls Try.prog 30 #[.pointer (some ⟨g, 0, none⟩), .int .i64 m] w fun e w' => e = .returned (.tuple #[.string (strOfNums l), .bool true]) ∧ RLeft w base g most room rest w' := by
  have c2 := h.c2
  have f2 := blk_frozen h.blk 2
  have HP := Aside0.mk h.popped
  obtain ⟨A', c', e1, hcc, hA⟩ := wr_slice h.row
  obtain ⟨g1, off, rfl⟩ := hA (by simp)
  injection e1 with e1 e2 e3
  subst e1; subst e3
  have hc := (wr_cell h.row 0 (.string (strOfNums l)) rfl).1
  have hsz := strN_size l
  simp only [List.length_cons] at c2 hcc
  rw [Nat.add_zero] at hc
  obtain ⟨n, hn⟩ : ∃ n, n = rest.length + 1 := ⟨_, rfl⟩
  rw [← hn] at c2 hcc
  have hp : (0 : Int) < (n : Int) := by omega
  have hz1 : ((n : Int) == 0) = false := beq_eq_false_iff_ne.mpr (by omega)
  have hl1 : decide ((l.length : Int) > m) = false := decide_eq_false (by omega)
  obtain ⟨i0, hi0, _, hsz0, _⟩ := info_parts info9
  have hcut := cut_from (P := Try.prog) 45 9 .i64 Try.underlying45 hi0 1 hsz0 (some ⟨g1, off, none⟩) n c 1 (by omega) (by omega)
  simp only [Int.toNat_one, Nat.mul_one, Nat.one_mul] at hcut
  have hn1 : n - 1 = rest.length := by omega
  rw [hn1] at hcut
  have hA2 : (if c = 1 then (some ⟨g1, off, none⟩ : Option Addr) else (some ⟨g1, off, none⟩ : Option Addr).map (·.add 1)) = some ⟨g1, if c = 1 then off else off + 1, none⟩ := by
    split <;> simp [add_at]
  rw [hA2] at HP
  simp only [hA2] at hcut
  obtain ⟨o2, ho2⟩ : ∃ o2, o2 = (if c = 1 then off else off + 1) := ⟨_, rfl⟩
  rw [← ho2] at HP hcut
  clear h e2 hn hcc hA hi0 hsz0 hn1 hA2 ho2
  go_enter Try.func30, Try.ntmps30
  go_wp2
  go_ret2
  exact ⟨rfl, HP.out⟩
theorem rput_bad (h : RQue w base g most room A c ls) (A0 : Option Addr) (n c0 : Nat) (hb : (n : Int) > most ∨ (ls.length : Int) ≥ room) :
    Calls Try.prog 28 #[.pointer (some ⟨g, 0, none⟩), .slice A0 n c0] w fun e w' => e = .returned (.int .i64 (if (n : Int) > most then 3 else 35)) ∧ Drawn0 w w' := by
  have c0' := h.c0
  have c1 := h.c1
  have c2 := h.c2
  clear h
  by_cases hm : (n : Int) > most
  · rw [if_pos hm]
    have hm1 : decide ((n : Int) > most) = true := decide_eq_true hm
    go_enter Try.func28, Try.ntmps28
    go_wp2_with fail
    go_ret
    exact ⟨rfl, Drawn0.refl _⟩
  · rw [if_neg hm]
    have hm1 : decide ((n : Int) > most) = false := decide_eq_false hm
    have hr : (ls.length : Int) ≥ room := by omega
    have hr1 : decide ((ls.length : Int) ≥ room) = true := decide_eq_true hr
    clear hb
    go_enter Try.func28, Try.ntmps28
    go_wp2_with fail
    go_quiet (fail)
    go_wp2_with fail
    go_ret
    exact ⟨rfl, ⟨⟨_, rfl⟩⟩⟩
end Go.Proofs.Ytpilpgdlgkndmaa.Dg
namespace Go.Proofs.Ytpilpgdlgkndmaa.Dg
open Go.RowKit Go.Proofs.YtpilpgdlgkndmaaW.PrintWords Go.Proofs.YtpilpgdlgkndmaaW.PrintLast Go.Proofs.YtpilpgdlgkndmaaW.PrintMore Go.Proofs.Ytpilpgdlgkndmaa.Rw
variable {w : World} {base g : Nat} {most room : Int} {A : Option Addr} {c : Nat} {ls : List (List Int)}
theorem first_drewB (w : World) (m b : Nat) : Below b w (w.drewN m) := pw_below_drewN (Below.refl _ w) m
set_option maxRecDepth 100000 in
set_option maxHeartbeats 3200000 in
theorem rput_good (h : RQue w base g most room A c ls) (hbase : base ≤ w.heap.size) (A0 : Option Addr) (l : List Int) (c0 : Nat) (hr : Kd.C (Kd.int .u8) w A0 l.length l) (hm : ¬ (l.length : Int) > most) (hroom : ¬ (ls.length : Int) ≥ room) :
    Calls Try.prog 28 #[.pointer (some ⟨g, 0, none⟩), .slice A0 l.length c0] w fun e w' => e = .returned (.int .i64 0) ∧ RLeft w base g most room (ls ++ [l]) w' := by
  have c0' := h.c0
  have c1 := h.c1
  have c2 := h.c2
  have f2 := blk_frozen h.blk 2
  have H := Aside0.mk h
  have HB := Aside0.mk hbase
  have HG := Aside0.mk (blk_lt h.blk)
  have hg1 := blk_lt h.blk
  have HF := Aside0.mk (show ((ls.length + 1 : Nat) : Int) ≤ room by omega)
  have HM := Aside0.mk (show ls.length ≤ 64 by have := h.few; have := h.r1; omega)
  have hcv := fun nd : Nat => Kd.C_string (P := Try.prog) (A := A0) (c := c0) Try.underlying22 Try.underlying5 Try.underlying9 (Kd.C_drewN hr nd)
  have hm1 : decide ((l.length : Int) > most) = false := decide_eq_false hm
  have hr1 : decide ((ls.length : Int) ≥ room) = false := decide_eq_false hroom
  have c2a : ∀ (nd : Nat) (o : Obj), ((w.drewN nd).alloc o).cell? ⟨g, 2, none⟩ = some (.slice A ls.length c) := fun nd o => pw_cell_below (below_alloc (first_drew w nd) o) c2
  clear h hr hm hroom hbase
  go_enter Try.func28, Try.ntmps28
  go_wp2_with fail
  go_quiet (fail)
  go_wp2_with fail
  go_region_law (first
    | (refine wr_append_step (w0 := w) base (by rfl) (.tmp 26) (.tmp 29) 45 9 (.string ByteArray.empty) 16 (by rfl) Try.underlying45 info9 rfl (by omega) (.slice A ls.length c) (ls.map strV) (.string (strOfNums l)) (by rfl) (by rfl) rfl (by rw [List.length_map]; exact wr_move H.out.row (fun _ _ => rfl)) (first_drewB w _ base) HB.out (by have := HM.out; simp; omega) ?_; intro v2 w2 hrow hb2 hg2 hat2; rw [strs_snoc, List.length_map, List.length_append, List.length_singleton] at hrow; obtain ⟨A1, c1', e1, _, _⟩ := wr_slice hrow; subst e1; have HT := Aside0.mk (RQue.pushed H.out (first_drew w _) hg2 hrow HF.out HB.out); have k4 := hg2.cell (row := (Value.slice A ls.length c).ownBlock) (a := ⟨g, 2, none⟩) c2 (H.out.row_ne); have f4 := (World.frozen?_of_block (hg2.block g HG.out (H.out.row_ne))).trans f2; clear hrow hb2 hg2 hat2)
    | fail)
  all_goals
    go_wp2
    go_ret
    exact ⟨rfl, HT.out⟩
end Go.Proofs.Ytpilpgdlgkndmaa.Dg
namespace Go.Proofs.Ytpilpgdlgkndmaa.Dg
open Go.RowKit Go.Proofs.YtpilpgdlgkndmaaW.PrintWords Go.Proofs.YtpilpgdlgkndmaaW.PrintLast Go.Proofs.YtpilpgdlgkndmaaW.PrintMore Go.Proofs.Ytpilpgdlgkndmaa.Rw
variable {w : World} {base g : Nat} {most room : Int} {A : Option Addr} {c : Nat} {ls : List (List Int)}
theorem first_drew1 (w : World) : Below w.heap.size w w.drew := below_drew (Below.refl _ w)
theorem first_drewB1 (w : World) (b : Nat) : Below b w w.drew := below_drew (Below.refl _ w)
theorem rpush_bad (h : RQue w base g most room A c ls) (A0 : Option Addr) (n c0 : Nat) (hb : (n : Int) > most ∨ room = 0) :
    Calls Try.prog 29 #[.pointer (some ⟨g, 0, none⟩), .slice A0 n c0] w fun e w' => e = .returned (.tuple #[.string ⟨#[]⟩, .bool false, .int .i64 (if (n : Int) > most then 3 else 35)]) ∧ Drawn0 w w' := by
  have c0' := h.c0
  have c1 := h.c1
  clear h
  by_cases hm : (n : Int) > most
  · rw [if_pos hm]
    have hm1 : decide ((n : Int) > most) = true := decide_eq_true hm
    go_enter Try.func29, Try.ntmps29
    go_wp2_with fail
    go_ret3
    exact ⟨rfl, Drawn0.refl _⟩
  · rw [if_neg hm]
    obtain rfl : room = 0 := by omega
    have hm1 : decide ((n : Int) > most) = false := decide_eq_false hm
    clear hb
    go_enter Try.func29, Try.ntmps29
    go_wp2_with fail
    go_ret3
    exact ⟨rfl, Drawn0.refl _⟩
set_option maxRecDepth 100000 in
set_option maxHeartbeats 3200000 in
theorem rpush_room (h : RQue w base g most room A c ls) (hbase : base ≤ w.heap.size) (A0 : Option Addr) (l : List Int) (c0 : Nat) (hr : Kd.C (Kd.int .u8) w A0 l.length l) (hm : ¬ (l.length : Int) > most) (hroom : ¬ (ls.length : Int) ≥ room) :
    Calls Try.prog 29 #[.pointer (some ⟨g, 0, none⟩), .slice A0 l.length c0] w fun e w' => e = .returned (.tuple #[.string ⟨#[]⟩, .bool false, .int .i64 0]) ∧ RLeft w base g most room (ls ++ [l]) w' := by
  have c0' := h.c0
  have c1 := h.c1
  have c2 := h.c2
  have f2 := blk_frozen h.blk 2
  have H := Aside0.mk h
  have HB := Aside0.mk hbase
  have HG := Aside0.mk (blk_lt h.blk)
  have hg1 := blk_lt h.blk
  have HF := Aside0.mk (show ((ls.length + 1 : Nat) : Int) ≤ room by omega)
  have HM := Aside0.mk (show ls.length ≤ 64 by have := h.few; have := h.r1; omega)
  have hcv := fun nd : Nat => Kd.C_string (P := Try.prog) (A := A0) (c := c0) Try.underlying22 Try.underlying5 Try.underlying9 (Kd.C_drewN hr nd)
  have hm1 : decide ((l.length : Int) > most) = false := decide_eq_false hm
  have hr1 : decide ((ls.length : Int) ≥ room) = false := decide_eq_false hroom
  have hr0 : (room == 0) = false := beq_eq_false_iff_ne.mpr (by omega)
  have c2a : ∀ (nd : Nat) (o : Obj), ((w.drewN nd).alloc o).cell? ⟨g, 2, none⟩ = some (.slice A ls.length c) := fun nd o => pw_cell_below (below_alloc (first_drew w nd) o) c2
  clear h hr hm hroom hbase
  go_enter Try.func29, Try.ntmps29
  go_wp2_with fail
  go_quiet (fail)
  go_wp2_with fail
  go_region_law (first
    | (refine wr_append_step (w0 := w) base (by rfl) (.tmp 50) (.tmp 53) 45 9 (.string ByteArray.empty) 16 (by rfl) Try.underlying45 info9 rfl (by omega) (.slice A ls.length c) (ls.map strV) (.string (strOfNums l)) (by rfl) (by rfl) rfl (by rw [List.length_map]; exact wr_move H.out.row (fun _ _ => rfl)) (first_drewB w _ base) HB.out (by have := HM.out; simp; omega) ?_; intro v2 w2 hrow hb2 hg2 hat2; rw [strs_snoc, List.length_map, List.length_append, List.length_singleton] at hrow; obtain ⟨A1, c1', e1, _, _⟩ := wr_slice hrow; subst e1; have HT := Aside0.mk (RQue.pushed H.out (first_drew w _) hg2 hrow HF.out HB.out); have k4 := hg2.cell (row := (Value.slice A ls.length c).ownBlock) (a := ⟨g, 2, none⟩) c2 (H.out.row_ne); have f4 := (World.frozen?_of_block (hg2.block g HG.out (H.out.row_ne))).trans f2; clear hrow hb2 hg2 hat2)
    | fail)
  all_goals
    go_wp2
    go_ret3
    exact ⟨rfl, HT.out⟩
set_option maxRecDepth 100000 in
set_option maxHeartbeats 3200000 in
theorem rpush_full {l0 : List Int} {rest : List (List Int)} (h : RQue w base g most room A c (l0 :: rest)) (hbase : base ≤ w.heap.size) (A0 : Option Addr) (l : List Int) (c0 : Nat) (hr : ∀ W, RLeft w base g most room rest W → Kd.C (Kd.int .u8) W A0 l.length l) (hm : ¬ (l.length : Int) > most) (hroom : ((rest.length + 1 : Nat) : Int) ≥ room) (hr0' : 0 < room) :
    Calls Try.prog 29 #[.pointer (some ⟨g, 0, none⟩), .slice A0 l.length c0] w fun e w' => e = .returned (.tuple #[.string (strOfNums l0), .bool true, .int .i64 0]) ∧ ∃ w1, RLeft w base g most room rest w1 ∧ RLeft w1 base g most room (rest ++ [l]) w' := by
  have c0' := h.c0
  have c1 := h.c1
  have c2 := h.c2
  have f2 := blk_frozen h.blk 2
  have HP := Aside0.mk h.popped
  have hfew := h.few
  have HR1 := Aside0.mk h.r1
  have HB := Aside0.mk hbase
  obtain ⟨A', c', e1, hcc, hA⟩ := wr_slice h.row
  obtain ⟨g1, off, rfl⟩ := hA (by simp)
  injection e1 with e1 e2 e3
  subst e1; subst e3
  have hc := (wr_cell h.row 0 (.string (strOfNums l0)) rfl).1
  have hsz := strN_size l0
  simp only [List.length_cons] at c2 hcc hfew
  rw [Nat.add_zero] at hc
  obtain ⟨n, hn⟩ : ∃ n, n = rest.length + 1 := ⟨_, rfl⟩
  rw [← hn] at c2 hcc
  have hp : (0 : Int) < (n : Int) := by omega
  have hz1 : ((n : Int) == 0) = false := beq_eq_false_iff_ne.mpr (by omega)
  have hm1 : decide ((l.length : Int) > most) = false := decide_eq_false hm
  have hr1 : decide ((n : Int) ≥ room) = true := decide_eq_true (by omega)
  have hr0 : (room == 0) = false := beq_eq_false_iff_ne.mpr (by omega)
  obtain ⟨i0, hi0, _, hsz0, _⟩ := info_parts info9
  have hcut := cut_from (P := Try.prog) 45 9 .i64 Try.underlying45 hi0 1 hsz0 (some ⟨g1, off, none⟩) n c 1 (by omega) (by omega)
  simp only [Int.toNat_one, Nat.mul_one, Nat.one_mul] at hcut
  have hn1 : n - 1 = rest.length := by omega
  rw [hn1] at hcut
  have hA2 : (if c = 1 then (some ⟨g1, off, none⟩ : Option Addr) else (some ⟨g1, off, none⟩ : Option Addr).map (·.add 1)) = some ⟨g1, if c = 1 then off else off + 1, none⟩ := by
    split <;> simp [add_at]
  rw [hA2] at HP
  simp only [hA2] at hcut
  obtain ⟨o2, ho2⟩ : ∃ o2, o2 = (if c = 1 then off else off + 1) := ⟨_, rfl⟩
  rw [← ho2] at HP hcut
  have HF := Aside0.mk (show ((rest.length + 1 : Nat) : Int) ≤ room by omega)
  have HR := Aside0.mk hr
  clear h e2 hn hcc hA hi0 hsz0 hn1 hA2 ho2 hfew hr hm hroom hr0' hbase
  go_enter Try.func29, Try.ntmps29
  go_wp2_with fail
  go_quiet (fail)
  go_wp2_with fail
  generalize hwp : World.setCell (World.drewN w nq) ⟨g, 2, none⟩ (.slice (some ⟨g1, o2, none⟩) rest.length (c - 1)) = wp
  have HL := Aside0.mk (show RLeft w base g most room rest wp by rw [← hwp]; exact HP.out.drewN nq)
  clear hwp c0' c1 c2 f2 hc HP hcut
  obtain ⟨Ap, cp, hq, hbw, hkw⟩ := HL.out
  have c2 := hq.c2
  have f2 := blk_frozen hq.blk 2
  have HQ := Aside0.mk hq
  have HB1 := Aside0.mk (Nat.le_trans HB.out hbw.size)
  have HG := Aside0.mk (blk_lt hq.blk)
  have hg1 := blk_lt hq.blk
  have HM := Aside0.mk (show rest.length ≤ 64 by have := HF.out; have := HR1.out; omega)
  have hcv := fun nd : Nat => Kd.C_string (P := Try.prog) (A := A0) (c := c0) Try.underlying22 Try.underlying5 Try.underlying9 (Kd.C_drewN (HR.out wp HL.out) nd)
  have hcv0 := Kd.C_string (P := Try.prog) (A := A0) (c := c0) Try.underlying22 Try.underlying5 Try.underlying9 (Kd.C_drew (HR.out wp HL.out))
  have c2a : ∀ (o : Obj), (wp.drew.alloc o).cell? ⟨g, 2, none⟩ = some (.slice Ap rest.length cp) := fun o => pw_cell_below (below_alloc (below_drew (Below.refl _ wp)) o) c2
  clear hq hbw hkw
  go_region_law (first
    | (refine wr_append_step (w0 := wp) base (by rfl) (.tmp 50) (.tmp 53) 45 9 (.string ByteArray.empty) 16 (by rfl) Try.underlying45 info9 rfl (by omega) (.slice Ap rest.length cp) (rest.map strV) (.string (strOfNums l)) (by rfl) (by rfl) rfl (by rw [List.length_map]; exact wr_move HQ.out.row (fun _ _ => rfl)) (first_drewB1 wp base) HB1.out (by have := HM.out; simp; omega) ?_; intro v2 w2 hrow hb2 hg2 hat2; rw [strs_snoc, List.length_map, List.length_append, List.length_singleton] at hrow; obtain ⟨A1, c1', e1, _, _⟩ := wr_slice hrow; subst e1; have HT := Aside0.mk (RQue.pushed HQ.out (first_drew1 wp) hg2 hrow HF.out HB1.out); have k4 := hg2.cell (row := (Value.slice Ap rest.length cp).ownBlock) (a := ⟨g, 2, none⟩) c2 (HQ.out.row_ne); have f4 := (World.frozen?_of_block (hg2.block g HG.out (HQ.out.row_ne))).trans f2; clear hrow hb2 hg2 hat2)
    | fail)
  all_goals
    go_wp2
    go_ret3
    exact ⟨rfl, wp, HL.out, HT.out⟩
end Go.Proofs.Ytpilpgdlgkndmaa.Dg
