/- The queue of datagrams: what it holds in memory, and what its methods do; no condition. -/
import Derived.Test.YtpilpgdlgkndmaaChecked
import Derived.Test.YtpilpgdlgkndmaaWMore
import Derived.Test.YtpilpgdlgkndmaaWKept
import Derived.Test.YtpilpgdlgkndmaaWRow
import Derived.Test.YtpilpgdlgkndmaaClone
import Derived.Deep.QuietTactic
import Derived.BigQuiet
import Derived.Deep.RegionHeld3
import Derived.StillTailTactics
import Derived.Deep.AppendLies
import Derived.Deep.RegionLaw
import Derived.Outline
set_option linter.unusedVariables false
set_option linter.unusedSimpArgs false
namespace Go.Proofs.Ytpilpgdlgkndmaa.Dg
open Go.RowKit Go.Proofs.YtpilpgdlgkndmaaW.PrintWords Go.Proofs.YtpilpgdlgkndmaaW.PrintLast Go.Proofs.YtpilpgdlgkndmaaW.PrintMore Go.Proofs.Ytpilpgdlgkndmaa.Rw

/-- What the queue at block g holds: the values in its row, and what each reads as. -/
structure Que (w : World) (base g : Nat) (most room : Int) (A : Option Addr) (c : Nat) (its : List (Value × List Int)) : Prop where
  hg : base ≤ g
  blk : w.heap[g]? = some (.cells #[.bool true, .int .i64 most, .int .i64 room, .slice A its.length c] 54 (0, 0))
  row : WRow w base 22 1 (.slice A its.length c) its.length (its.map (·.1))
  own : ∀ it ∈ its, Kd.R (Kd.int .u8) 5 w base (fun _ => True) it.1 it.2
  apart : its.Pairwise (fun a b => a.1.ownBlock = none ∨ a.1.ownBlock ≠ b.1.ownBlock)
  r0 : 0 ≤ room
  r1 : room ≤ 64
  few : (its.length : Int) ≤ room
theorem Que.c0 {w : World} {base g : Nat} {most room : Int} {A : Option Addr} {c : Nat} {its : List (Value × List Int)} (h : Que w base g most room A c its) : w.cell? ⟨g, 0, none⟩ = some (.bool true) := by rw [cell_of_row w g _ _ _ _ h.blk]; rfl
theorem Que.c1 {w : World} {base g : Nat} {most room : Int} {A : Option Addr} {c : Nat} {its : List (Value × List Int)} (h : Que w base g most room A c its) : w.cell? ⟨g, 1, none⟩ = some (.int .i64 most) := by rw [cell_of_row w g _ _ _ _ h.blk]; rfl
theorem Que.c2 {w : World} {base g : Nat} {most room : Int} {A : Option Addr} {c : Nat} {its : List (Value × List Int)} (h : Que w base g most room A c its) : w.cell? ⟨g, 2, none⟩ = some (.int .i64 room) := by rw [cell_of_row w g _ _ _ _ h.blk]; rfl
theorem Que.c3 {w : World} {base g : Nat} {most room : Int} {A : Option Addr} {c : Nat} {its : List (Value × List Int)} (h : Que w base g most room A c its) : w.cell? ⟨g, 3, none⟩ = some (.slice A its.length c) := by rw [cell_of_row w g _ _ _ _ h.blk]; rfl
theorem Que.drewN {w : World} {base g : Nat} {most room : Int} {A : Option Addr} {c : Nat} {its : List (Value × List Int)} (h : Que w base g most room A c its) (m : Nat) : Que (w.drewN m) base g most room A c its :=
  ⟨h.hg, h.blk, wr_move h.row (fun _ _ => rfl), fun it hi => Kd.R_drewN (h.own it hi) m, h.apart, h.r0, h.r1, h.few⟩

theorem none_q {w : World} {base g : Nat} {most room : Int} {A : Option Addr} {c : Nat} {its : List (Value × List Int)} (h : Que w base g most room A c its) :
    Calls Try.prog 38 #[.pointer (some ⟨g, 0, none⟩)] w fun e w' => e = .returned (.bool false) ∧ w = w' := by
  have c0 := h.c0
  have c1 := h.c1
  have c2 := h.c2
  clear h
  go_enter Try.func38, Try.ntmps38
  go_wp2
  go_ret
  exact ⟨rfl, rfl⟩
/-- What is wrong with n bytes. -/
def bad (most : Int) (n : Int) (r : Bool) : Int := if n > most then 3 else if r then 0 else 35
theorem wrong_q {w : World} {base g : Nat} {most room : Int} {A : Option Addr} {c : Nat} {its : List (Value × List Int)} (h : Que w base g most room A c its) (A0 : Option Addr) (n c0 : Nat) (r : Bool) :
    Calls Try.prog 35 #[.pointer (some ⟨g, 0, none⟩), .slice A0 n c0, .bool r] w fun e w' => e = .returned (.int .i64 (bad most n r)) ∧ w = w' := by
  have c1 := h.c1
  have H := Aside0.mk h
  clear h
  unfold bad
  by_cases hm : (n : Int) > most
  · rw [if_pos hm]
    have hm1 : decide ((n : Int) > most) = true := decide_eq_true hm
    go_enter Try.func35, Try.ntmps35
    go_wp2_with (go_at_call 38; refine (none_q H.out).mono ?_; rintro e w' ⟨rfl, rfl⟩)
    go_ret
    exact ⟨rfl, rfl⟩
  · rw [if_neg hm]
    have hm1 : decide ((n : Int) > most) = false := decide_eq_false hm
    cases r
    all_goals
      go_enter Try.func35, Try.ntmps35
      go_wp2_with (go_at_call 38; refine (none_q H.out).mono ?_; rintro e w' ⟨rfl, rfl⟩)
      go_ret
      exact ⟨rfl, rfl⟩
theorem full_q {w : World} {base g : Nat} {most room : Int} {A : Option Addr} {c : Nat} {its : List (Value × List Int)} (h : Que w base g most room A c its) :
    Calls Try.prog 36 #[.pointer (some ⟨g, 0, none⟩)] w fun e w' => e = .returned (.bool (decide ((its.length : Int) ≥ room))) ∧ Drawn0 w w' := by
  have c2 := h.c2
  have c3 := h.c3
  have H := Aside0.mk h
  clear h
  go_enter Try.func36, Try.ntmps36
  go_wp2_with fail
  go_quiet ((go_at_call 38; refine (none_q (H.out.drewN _)).mono ?_; rintro e w' ⟨rfl, rfl⟩; exact ⟨rfl, _, rfl⟩))
  go_wp2
  go_ret
  exact ⟨rfl, ⟨⟨_, rfl⟩⟩⟩
theorem told_q {w : World} {base g : Nat} {most room : Int} {A : Option Addr} {c : Nat} {its : List (Value × List Int)} (h : Que w base g most room A c its) :
    Calls Try.prog 14 #[.pointer (some ⟨g, 0, none⟩)] w fun e w' => e = .returned (.tuple #[.int .i64 its.length, .int .i64 ((its.map (·.2.length)).headD 0 : Nat)]) ∧ Drawn0 w w' := by
  have c3 := h.c3
  have H := Aside0.mk h
  cases its with
  | nil =>
    clear h
    simp only [List.length_nil] at c3
    go_enter Try.func14, Try.ntmps14
    go_wp2_with (go_at_call 38; refine (none_q H.out).mono ?_; rintro e w' ⟨rfl, rfl⟩)
    go_ret2
    exact ⟨rfl, Drawn0.refl _⟩
  | cons it rest =>
    obtain ⟨v, l⟩ := it
    obtain ⟨A', c', e1, _, hA⟩ := wr_slice h.row
    obtain ⟨g1, off, rfl⟩ := hA (by simp)
    injection e1 with e1 e2 e3
    subst e1; subst e3
    have hc := (wr_cell h.row 0 v rfl).1
    obtain ⟨Ab, cb, eb⟩ := Kd.R_slice (h.own (v, l) List.mem_cons_self)
    simp only at eb
    subst eb
    clear h e2
    simp only [List.length_cons] at c3
    rw [Nat.add_zero] at hc
    have hp : (0 : Int) < ((rest.length + 1 : Nat) : Int) := by omega
    have hz : ((rest.length + 1 : Nat) : Int) ≠ 0 := by omega
    have hz1 : (((rest.length + 1 : Nat) : Int) == 0) = false := beq_eq_false_iff_ne.mpr hz
    clear hz
    go_enter Try.func14, Try.ntmps14
    go_wp2_with (go_at_call 38; refine (none_q H.out).mono ?_; rintro e w' ⟨rfl, rfl⟩)
    go_quiet (fail)
    go_wp2
    go_ret2
    exact ⟨rfl, ⟨⟨_, rfl⟩⟩⟩
end Go.Proofs.Ytpilpgdlgkndmaa.Dg
namespace Go.Proofs.Ytpilpgdlgkndmaa.Dg
open Go.RowKit Go.Proofs.YtpilpgdlgkndmaaW.PrintWords Go.Proofs.YtpilpgdlgkndmaaW.PrintLast Go.Proofs.YtpilpgdlgkndmaaW.PrintMore Go.Proofs.Ytpilpgdlgkndmaa.Rw
theorem ty_ne {w : World} {k g : Nat} {a b : Array Value} {t u : Nat} (h : w.heap[k]? = some (.cells a t (0, 0))) (h' : w.heap[g]? = some (.cells b u (0, 0))) (hne : t ≠ u) : k ≠ g := by
  rintro rfl
  rw [h] at h'
  injection h' with h'
  injection h' with _ h'
  exact hne h'
/-- The oldest is gone. -/
theorem Que.popped {w : World} {base g : Nat} {most room : Int} {A : Option Addr} {c : Nat} {it : Value × List Int} {rest : List (Value × List Int)} (h : Que w base g most room A c (it :: rest)) :
    Que (w.setCell ⟨g, 3, none⟩ (.slice (if rest.length + 1 = 1 then A else A.map (·.add 1)) rest.length rest.length)) base g most room (if rest.length + 1 = 1 then A else A.map (·.add 1)) rest.length rest := by
  have hrow := wr_cut (lo := 1) (hi := rest.length + 1) (cp := rest.length + 1) h.row (by omega) (by simp) (by omega) (by have := (wr_room h.row).2.1; simpa using this)
  have hd : List.take ((rest.length + 1 - 1) * 1) (List.drop (1 * 1) (List.map (fun x => x.fst) (it :: rest))) = rest.map (·.1) := by
    rw [Nat.mul_one, Nat.add_sub_cancel, Nat.mul_one, List.map_cons, List.drop_succ_cons, List.drop_zero]
    exact List.take_of_length_le (by simp)
  rw [hd, Nat.add_sub_cancel, Nat.one_mul] at hrow
  have hne : ∀ k, (Value.slice (if rest.length + 1 = 1 then A else A.map (·.add 1)) rest.length rest.length).ownBlock = some k → k ≠ g := fun k hk => by
    obtain ⟨_, cells, hc⟩ := wr_typed hrow k hk
    exact ty_ne hc h.blk (by decide)
  refine ⟨h.hg, ?_, wr_move hrow (fun k hk => Below.heap_setCell w _ _ k (hne k hk)), fun x hx => ?_, (List.pairwise_cons.1 h.apart).2, h.r0, h.r1, by have := h.few; simp at this; omega⟩
  · have := blk_set h.blk 3 (.slice (if rest.length + 1 = 1 then A else A.map (·.add 1)) rest.length rest.length)
    exact this
  · exact Kd.R_mono (Kd.R_far (Kd.R_types (h.own x (List.mem_cons_of_mem _ hx)) h.blk (by decide)) (fun k hk => hk.2) _) (fun _ _ => trivial)
end Go.Proofs.Ytpilpgdlgkndmaa.Dg
namespace Go.Proofs.Ytpilpgdlgkndmaa.Dg
open Go.RowKit Go.Proofs.YtpilpgdlgkndmaaW.PrintWords Go.Proofs.YtpilpgdlgkndmaaW.PrintLast Go.Proofs.YtpilpgdlgkndmaaW.PrintMore Go.Proofs.Ytpilpgdlgkndmaa.Rw
theorem info22 : (Try.prog.info? 22).map (fun i => (i.zero, i.size, i.bytes)) = some (some (.slice none 0 0), 1, 24) := by kernel_rfl
/-- The world behind a pop. -/
def Popd (w : World) (g : Nat) (A : Option Addr) (k : Nat) (w' : World) : Prop := ∃ m, w' = (w.setCell ⟨g, 3, none⟩ (.slice (if k + 1 = 1 then A else A.map (·.add 1)) k k)).drewN m
set_option maxRecDepth 100000 in
set_option maxHeartbeats 1600000 in
theorem pop_q {w : World} {base g : Nat} {most room : Int} {A : Option Addr} {c : Nat} {it : Value × List Int} {rest : List (Value × List Int)} (h : Que w base g most room A c (it :: rest)) :
    Calls Try.prog 39 #[.pointer (some ⟨g, 0, none⟩)] w fun e w' => e = .returned it.1 ∧ Popd w g A rest.length w' := by
  have c3 := h.c3
  have f3 := blk_frozen h.blk 3
  obtain ⟨v, l⟩ := it
  obtain ⟨A', c', e1, hcc, hA⟩ := wr_slice h.row
  obtain ⟨g1, off, rfl⟩ := hA (by simp)
  injection e1 with e1 e2 e3
  subst e1; subst e3
  have hc := (wr_cell h.row 0 v rfl).1
  obtain ⟨Ab, cb, eb⟩ := Kd.R_slice (h.own (v, l) List.mem_cons_self)
  simp only at eb
  subst eb
  obtain ⟨i0, hi0, _, hsz, _⟩ := info_parts info22
  obtain ⟨n, hn⟩ : ∃ n, n = rest.length + 1 := ⟨_, rfl⟩
  simp only [List.length_cons] at c3 hcc
  rw [← hn] at c3 hcc
  have hcut := run_cut3 (P := Try.prog) 43 22 .i64 .i64 .i64 Try.underlying43 hi0 1 hsz (some ⟨g1, off, none⟩) n c 1 (n : Int) (n : Int) (by omega) (by omega) (by omega) (by omega)
  simp only [Int.toNat_natCast, Int.toNat_one, Nat.mul_one] at hcut
  rw [Nat.add_zero] at hc
  have hp : (0 : Int) < (n : Int) := by omega
  have HN := Aside0.mk hn
  clear h e2 hcc hA hi0 hsz hn
  go_enter Try.func39, Try.ntmps39
  go_wp2_with fail
  go_still_tail 18, (by kernel_rfl)
  go_wp2
  all_goals
    go_ret
    refine ⟨rfl, 1, ?_⟩
    have hn1 := HN.out
    split
    all_goals first
      | (exfalso; omega)
      | (have hr : rest.length = 0 := by omega
         simp only [hr]
         first | rfl | (simp [*]; done))
      | (have hr : n - 1 = rest.length := by omega
         rw [hr]
         first | rfl | (simp [*, add_at]; done))
end Go.Proofs.Ytpilpgdlgkndmaa.Dg
namespace Go.Proofs.Ytpilpgdlgkndmaa.Dg
open Go.RowKit Go.Proofs.YtpilpgdlgkndmaaW.PrintWords Go.Proofs.YtpilpgdlgkndmaaW.PrintLast Go.Proofs.YtpilpgdlgkndmaaW.PrintMore Go.Proofs.Ytpilpgdlgkndmaa.Rw
theorem next_none {w : World} {base g : Nat} {most room : Int} {A : Option Addr} {c : Nat} (h : Que w base g most room A c []) (m : Int) :
    Calls Try.prog 13 #[.pointer (some ⟨g, 0, none⟩), .int .i64 m] w fun e w' => e = .returned (.tuple #[.slice none 0 0, .bool false]) ∧ w = w' := by
  have c3 := h.c3
  have H := Aside0.mk h
  clear h
  simp only [List.length_nil] at c3
  go_enter Try.func13, Try.ntmps13
  go_wp2_with (go_at_call 38; refine (none_q H.out).mono ?_; rintro e w' ⟨rfl, rfl⟩)
  go_ret2
  exact ⟨rfl, rfl⟩
theorem next_long {w : World} {base g : Nat} {most room : Int} {A : Option Addr} {c : Nat} {it : Value × List Int} {rest : List (Value × List Int)} (h : Que w base g most room A c (it :: rest)) (m : Int) (hm : m < it.2.length) :
    Calls Try.prog 13 #[.pointer (some ⟨g, 0, none⟩), .int .i64 m] w fun e w' => e = .returned (.tuple #[.slice none 0 0, .bool false]) ∧ w = w' := by
  have c3 := h.c3
  have H := Aside0.mk h
  obtain ⟨v, l⟩ := it
  obtain ⟨A', c', e1, hcc, hA⟩ := wr_slice h.row
  obtain ⟨g1, off, rfl⟩ := hA (by simp)
  injection e1 with e1 e2 e3
  subst e1; subst e3
  have hc := (wr_cell h.row 0 v rfl).1
  obtain ⟨Ab, cb, eb⟩ := Kd.R_slice (h.own (v, l) List.mem_cons_self)
  simp only at eb hm
  subst eb
  obtain ⟨n, hn⟩ : ∃ n, n = rest.length + 1 := ⟨_, rfl⟩
  simp only [List.length_cons] at c3
  rw [← hn] at c3
  rw [Nat.add_zero] at hc
  have hp : (0 : Int) < (n : Int) := by omega
  have hz1 : ((n : Int) == 0) = false := beq_eq_false_iff_ne.mpr (by omega)
  have hl1 : decide ((l.length : Int) > m) = true := decide_eq_true hm
  clear h e2 hcc hA hn
  go_enter Try.func13, Try.ntmps13
  go_wp2_with (go_at_call 38; refine (none_q H.out).mono ?_; rintro e w' ⟨rfl, rfl⟩)
  go_ret2
  exact ⟨rfl, rfl⟩
theorem next_pop {w : World} {base g : Nat} {most room : Int} {A : Option Addr} {c : Nat} {it : Value × List Int} {rest : List (Value × List Int)} (h : Que w base g most room A c (it :: rest)) (m : Int) (hm : (it.2.length : Int) ≤ m) :
    Calls Try.prog 13 #[.pointer (some ⟨g, 0, none⟩), .int .i64 m] w fun e w' => e = .returned (.tuple #[it.1, .bool true]) ∧ Popd w g A rest.length w' := by
  have c3 := h.c3
  have H := Aside0.mk h
  obtain ⟨v, l⟩ := it
  obtain ⟨A', c', e1, hcc, hA⟩ := wr_slice h.row
  obtain ⟨g1, off, rfl⟩ := hA (by simp)
  injection e1 with e1 e2 e3
  subst e1; subst e3
  have hc := (wr_cell h.row 0 v rfl).1
  obtain ⟨Ab, cb, eb⟩ := Kd.R_slice (h.own (v, l) List.mem_cons_self)
  simp only at eb hm
  subst eb
  obtain ⟨n, hn⟩ : ∃ n, n = rest.length + 1 := ⟨_, rfl⟩
  simp only [List.length_cons] at c3
  rw [← hn] at c3
  rw [Nat.add_zero] at hc
  have hp : (0 : Int) < (n : Int) := by omega
  have hz1 : ((n : Int) == 0) = false := beq_eq_false_iff_ne.mpr (by omega)
  have hl1 : decide ((l.length : Int) > m) = false := decide_eq_false (by omega)
  clear h e2 hcc hA hn
  go_enter Try.func13, Try.ntmps13
  go_wp2_with (first
    | (go_at_call 38; refine (none_q H.out).mono ?_; rintro e w' ⟨rfl, rfl⟩)
    | (go_at_call 39; refine (pop_q H.out).mono ?_; rintro e w1 ⟨rfl, hw1⟩; have HW := Aside0.mk hw1; clear hw1))
  go_ret2
  exact ⟨rfl, HW.out⟩
end Go.Proofs.Ytpilpgdlgkndmaa.Dg
namespace Go.Proofs.Ytpilpgdlgkndmaa.Dg
open Go.RowKit Go.Proofs.YtpilpgdlgkndmaaW.PrintWords Go.Proofs.YtpilpgdlgkndmaaW.PrintLast Go.Proofs.YtpilpgdlgkndmaaW.PrintMore Go.Proofs.Ytpilpgdlgkndmaa.Rw
/-- The blocks that a queue's methods may write: queues, and rows of texts. -/
def Tch (w : World) (k : Nat) : Prop := ∃ cells t, (t = 54 ∨ t = 22) ∧ w.heap[k]? = some (.cells cells t (0, 0))
theorem row_len {A : Option Addr} {n c : Nat} {its : List (Value × List Int)} {w : World} {base : Nat} (h : WRow w base 22 1 (.slice A n c) its.length (its.map (·.1))) : (its.map (·.1)).length = its.length := List.length_map _
/-- One more behind. -/
theorem Que.pushed {w W w2 : World} {base g : Nat} {most room : Int} {A A1 : Option Addr} {c c1 : Nat} {its : List (Value × List Int)} {v : Value} {l : List Int} (h : Que w base g most room A c its) (hbase : base ≤ w.heap.size)
    (hW : Below w.heap.size w W) (hv : Kd.R (Kd.int .u8) 5 W w.heap.size (fun _ => True) v l) (hg : W.grownBy w2 (Value.slice A its.length c).ownBlock)
    (hrow : WRow w2 base 22 1 (.slice A1 (its.length + 1) c1) (its.length + 1) (its.map (·.1) ++ [v])) (hfew : ((its.length + 1 : Nat) : Int) ≤ room) :
    Que (w2.setCell ⟨g, 3, none⟩ (.slice A1 (its.length + 1) c1)) base g most room A1 c1 (its ++ [(v, l)]) ∧ Below base w (w2.setCell ⟨g, 3, none⟩ (.slice A1 (its.length + 1) c1)) ∧ Kept w (w2.setCell ⟨g, 3, none⟩ (.slice A1 (its.length + 1) c1)) (Tch w) ∧
      Kd.R (Kd.int .u8) 5 (w2.setCell ⟨g, 3, none⟩ (.slice A1 (its.length + 1) c1)) w.heap.size (fun _ => True) v l := by
  have hlen : (its ++ [(v, l)]).length = its.length + 1 := by simp
  have hmap : (its ++ [(v, l)]).map (·.1) = its.map (·.1) ++ [v] := by simp
  have hbW : W.heap[g]? = some (.cells #[.bool true, .int .i64 most, .int .i64 room, .slice A its.length c] 54 (0, 0)) := (hW.block g (blk_lt h.blk)).trans h.blk
  have hrowty : ∀ k, (Value.slice A its.length c).ownBlock = some k → base ≤ k ∧ ∃ cells, w.heap[k]? = some (.cells cells 22 (0, 0)) := fun k hk => wr_typed h.row k hk
  have hrowW : ∀ k, (Value.slice A its.length c).ownBlock = some k → ∃ cells, W.heap[k]? = some (.cells cells 22 (0, 0)) := fun k hk => by
    obtain ⟨_, cells, hc⟩ := hrowty k hk
    exact ⟨cells, (hW.block k (blk_lt hc)).trans hc⟩
  have hgne : some g ≠ (Value.slice A its.length c).ownBlock := fun he => by
    obtain ⟨cells, hc⟩ := hrowW g he.symm
    exact ty_ne hc hbW (by decide) rfl
  have hb2 : w2.heap[g]? = some (.cells #[.bool true, .int .i64 most, .int .i64 room, .slice A its.length c] 54 (0, 0)) := blk_grown hbW hg hgne
  have hown : ∀ {b : Nat} {x : Value} {y : List Int}, Kd.R (Kd.int .u8) 5 W b (fun _ => True) x y → Kd.R (Kd.int .u8) 5 (w2.setCell ⟨g, 3, none⟩ (.slice A1 (its.length + 1) c1)) b (fun _ => True) x y := fun {b x y} hx => by
    have h1 : Kd.R (Kd.int .u8) 5 w2 b (fun k => True ∧ some k ≠ (Value.slice A its.length c).ownBlock) x y := by
      have h0 := Kd.R_mono (Kd.R_bound hx) (ok' := fun k => True ∧ some k ≠ (Value.slice A its.length c).ownBlock) (fun k hk => ⟨trivial, fun he => by
        obtain ⟨_, _, _, q, hq, cells, hc⟩ := hk
        obtain ⟨cells', hc'⟩ := hrowW k he.symm
        have hq' : q = 5 := by simpa [Kd.int, Kd.scalar] using hq
        subst hq'
        exact ty_ne hc hc' (by decide) rfl⟩)
      exact Kd.R_grown h0 hg (fun k hk => hk.2)
    exact Kd.R_mono (Kd.R_far (Kd.R_types h1 hb2 (by decide)) (fun k hk => hk.2) _) (fun _ _ => trivial)
  have hfar : ∀ k, k ≠ g → (w2.setCell ⟨g, 3, none⟩ (.slice A1 (its.length + 1) c1)).heap[k]? = w2.heap[k]? := fun k hk => Below.heap_setCell w2 _ _ k hk
  have hs1 : w.heap.size ≤ W.heap.size := hW.size
  have hsz : w.heap.size ≤ w2.heap.size := Nat.le_trans hW.size hg.size
  have hss : (w2.setCell ⟨g, 3, none⟩ (.slice A1 (its.length + 1) c1)).heap.size = w2.heap.size := by simp [World.setCell]
  refine ⟨⟨h.hg, ?_, ?_, fun x hx => ?_, ?_, h.r0, h.r1, by rw [hlen]; exact hfew⟩, ?_, ⟨by rw [hss]; exact hsz, fun k hk hn => ?_⟩, hown hv⟩
  · rw [hlen]
    exact blk_set hb2 3 _
  · rw [hlen, hmap]
    refine wr_move hrow (fun k hk => hfar k ?_)
    obtain ⟨_, cells, hc⟩ := wr_typed hrow k hk
    exact ty_ne hc hb2 (by decide)
  · rcases List.mem_append.1 hx with hx | hx
    · exact hown (Kd.R_below (h.own x hx) hW)
    · rw [List.mem_singleton.1 hx]
      exact Kd.R_lower (hown hv) hbase
  · refine List.pairwise_append.2 ⟨h.apart, List.pairwise_singleton _ _, fun a ha b hb => ?_⟩
    rw [List.mem_singleton.1 hb]
    cases hk : a.1.ownBlock with
    | none => exact .inl rfl
    | some k =>
      refine .inr fun he => ?_
      have h1 := Kd.R_lt (h.own a ha) k hk
      have h2 := Kd.R_base hv k he.symm
      omega
  · have hbw2 : Below base w w2 := ⟨hg.os.trans hW.os, hg.tape.trans hW.tape, hg.output.trans hW.output, hsz, fun k hk => (hg.block k (by omega) (fun he => by have := (hrowty k he.symm).1; omega)).trans (hW.block k (by omega))⟩
    exact hbw2.setCell (Nat.le_trans (Nat.le_refl _) h.hg) _
  · have hkg : k ≠ g := by
      rintro rfl
      exact hn ⟨_, _, .inl rfl, h.blk⟩
    have hkr : some k ≠ (Value.slice A its.length c).ownBlock := fun he => by
      obtain ⟨_, cells, hc⟩ := hrowty k he.symm
      exact hn ⟨_, _, .inr rfl, hc⟩
    exact ((hfar k hkg).trans (hg.block k (Nat.lt_of_lt_of_le hk hW.size) hkr)).trans (hW.block k hk)
/-- What a good call leaves. -/
def Took (w : World) (base g : Nat) (most room : Int) (its : List (Value × List Int)) (l : List Int) (w' : World) : Prop :=
  ∃ A c v, Que w' base g most room A c (its ++ [(v, l)]) ∧ Below base w w' ∧ Kept w w' (Tch w) ∧ Kd.R (Kd.int .u8) 5 w' w.heap.size (fun _ => True) v l
theorem Took.drewN {w w' : World} {base g : Nat} {most room : Int} {its : List (Value × List Int)} {l : List Int} (h : Took w base g most room its l w') (m : Nat) : Took w base g most room its l (w'.drewN m) := by
  obtain ⟨A, c, v, h1, h2, h3, h4⟩ := h
  exact ⟨A, c, v, h1.drewN m, pw_below_drewN h2 m, h3.drewN m, Kd.R_drewN h4 m⟩
theorem put_bad {w : World} {base g : Nat} {most room : Int} {A : Option Addr} {c : Nat} {its : List (Value × List Int)} (h : Que w base g most room A c its) (A0 : Option Addr) (n c0 : Nat) (hb : (n : Int) > most ∨ (its.length : Int) ≥ room) :
    Calls Try.prog 12 #[.pointer (some ⟨g, 0, none⟩), .slice A0 n c0] w fun e w' => e = .returned (.int .i64 (if (n : Int) > most then 3 else 35)) ∧ Drawn0 w w' := by
  have H := Aside0.mk h
  clear h
  by_cases hm : (n : Int) > most
  · rw [if_pos hm]
    have hbad : ∀ r, bad most n r = 3 := fun r => by unfold bad; rw [if_pos hm]
    go_enter Try.func12, Try.ntmps12
    go_wp2_with (first
      | (go_at_call 36; refine (full_q H.out).mono ?_; rintro e w' ⟨rfl, ⟨nd, rfl⟩⟩)
      | (go_at_call 35; refine (wrong_q (H.out.drewN _) _ _ _ _).mono ?_; rintro e w' ⟨rfl, rfl⟩))
    go_ret
    exact ⟨rfl, ⟨⟨_, rfl⟩⟩⟩
  · rw [if_neg hm]
    have hf : decide ((its.length : Int) ≥ room) = true := decide_eq_true (by omega)
    have hbad : bad most n false = 35 := by unfold bad; rw [if_neg hm]; rfl
    go_enter Try.func12, Try.ntmps12
    go_wp2_with (first
      | (go_at_call 36; refine (full_q H.out).mono ?_; rw [hf]; rintro e w' ⟨rfl, ⟨nd, rfl⟩⟩)
      | (go_at_call 35; refine (wrong_q (H.out.drewN _) _ _ _ _).mono ?_; rw [hbad]; rintro e w' ⟨rfl, rfl⟩))
    go_ret
    exact ⟨rfl, ⟨⟨_, rfl⟩⟩⟩
end Go.Proofs.Ytpilpgdlgkndmaa.Dg
namespace Go.Proofs.Ytpilpgdlgkndmaa.Dg
open Go.RowKit Go.Proofs.YtpilpgdlgkndmaaW.PrintWords Go.Proofs.YtpilpgdlgkndmaaW.PrintLast Go.Proofs.YtpilpgdlgkndmaaW.PrintMore Go.Proofs.Ytpilpgdlgkndmaa.Rw
theorem Que.row_ne {w : World} {base g : Nat} {most room : Int} {A : Option Addr} {c : Nat} {its : List (Value × List Int)} (h : Que w base g most room A c its) : some g ≠ (Value.slice A its.length c).ownBlock := fun he => by
  obtain ⟨_, cells, hc⟩ := wr_typed h.row g he.symm
  exact ty_ne hc h.blk (by decide) rfl
theorem row_len1 (its : List (Value × List Int)) (v : Value) : (its.map (·.1) ++ [v]).length = its.length + 1 := by simp
set_option maxRecDepth 100000 in
set_option maxHeartbeats 3200000 in
theorem put_good {w : World} {base g : Nat} {most room : Int} {A : Option Addr} {c : Nat} {its : List (Value × List Int)} (h : Que w base g most room A c its) (hbase : base ≤ w.heap.size) (A0 : Option Addr) (l : List Int) (c0 : Nat)
    (hr : Kd.C (Kd.int .u8) w A0 l.length l) (hc : l.length ≤ c0) (hl : l.length ≤ 140737488355328) (hm : ¬ (l.length : Int) > most) (hroom : ¬ (its.length : Int) ≥ room) :
    Calls Try.prog 12 #[.pointer (some ⟨g, 0, none⟩), .slice A0 l.length c0] w fun e w' => e = .returned (.int .i64 0) ∧ Took w base g most room its l w' := by
  have c3 := h.c3
  have f3 := blk_frozen h.blk 3
  have H := Aside0.mk h
  have HBase := Aside0.mk hbase
  have HR := Aside0.mk hr
  have HC := Aside0.mk (And.intro hc hl)
  have HF := Aside0.mk (show ((its.length + 1 : Nat) : Int) ≤ room by omega)
  have HM := Aside0.mk (show its.length ≤ 64 by have := h.few; have := h.r1; omega)
  have hf : decide ((its.length : Int) ≥ room) = false := decide_eq_false hroom
  have hbad : bad most l.length true = 0 := by unfold bad; rw [if_neg hm]; rfl
  have HG := Aside0.mk (blk_lt h.blk)
  clear h hr hc hl hm hroom hbase
  go_enter Try.func12, Try.ntmps12
  go_wp2_with (first
    | (go_at_call 36; refine (full_q H.out).mono ?_; rw [hf]; rintro e w' ⟨rfl, ⟨nd, rfl⟩⟩)
    | (go_at_call 35; refine (wrong_q (H.out.drewN _) _ _ _ _).mono ?_; rw [hbad]; rintro e w' ⟨rfl, rfl⟩))
  go_region_law (first
    | (refine wr_append_step (w0 := w) base (by rfl) (.tmp 19) (.tmp 22) 43 22 (.slice none 0 0) 24 (by rfl) Try.underlying43 info22 rfl (by omega) (.slice A its.length c) (its.map (·.1)) (.slice Av l.length cv) (by rfl) (by rfl) rfl (by rw [List.length_map]; exact HRow.out) HB.out HBs.out (by have := HM.out; simp; omega) ?_; intro v2 w2 hrow hb2 hg2 hat2; rw [row_len1] at hrow; obtain ⟨A1, c1, e1, _, _⟩ := wr_slice hrow; subst e1; have HT := Aside0.mk (Que.pushed H.out HBase.out HW1.out HV1.out hg2 hrow HF.out); have k4 := hg2.cell k3 (H.out.row_ne); have f4 := (World.frozen?_of_block (hg2.block g (Nat.lt_of_lt_of_le HG.out HW1.out.size) (H.out.row_ne))).trans f5; clear k3 f5 hrow hb2 hg2 hat2)
    | (go_simp; go_at_call 37; refine (Clone.clone_calls A0 c0 l _ ?_ HC.out.1 HC.out.2).mono ?_; (exact Kd.C_drewN HR.out _); rintro e w1 ⟨v1, rfl, ho, hb⟩; obtain ⟨Av, cv, ev⟩ := Kd.R_slice ho; subst ev; have hw1 := below_step (pw_below_drewN (Below.refl _ w) _) hb; have HV1 := Aside0.mk (show Kd.R (Kd.int .u8) 5 w1 w.heap.size (fun _ => True) (.slice Av l.length cv) l from ho); have k3 := pw_cell_below hw1 c3; have f5 := (World.frozen?_of_block (hw1.block g HG.out)).trans f3; have HRow := Aside0.mk (wr_move H.out.row (fun k hk => hw1.block k (wr_lt H.out.row k hk))); have HB := Aside0.mk (hw1.mono HBase.out); have HBs := Aside0.mk (Nat.le_trans HBase.out hw1.size); have hg1 := Nat.lt_of_lt_of_le HG.out hw1.size; have HW1 := Aside0.mk hw1; clear hw1 hb ho))
  all_goals
    go_wp2
    go_ret
    exact ⟨rfl, A1, c1, _, HT.out⟩
end Go.Proofs.Ytpilpgdlgkndmaa.Dg
namespace Go.Proofs.Ytpilpgdlgkndmaa.Dg
open Go.RowKit Go.Proofs.YtpilpgdlgkndmaaW.PrintWords Go.Proofs.YtpilpgdlgkndmaaW.PrintLast Go.Proofs.YtpilpgdlgkndmaaW.PrintMore Go.Proofs.Ytpilpgdlgkndmaa.Rw
theorem first_drew (w : World) (m : Nat) : Below w.heap.size w (w.drewN m) := pw_below_drewN (Below.refl _ w) m
/-- What a call leaves: the queue with these, all else as it was. -/
def Left (w : World) (base g : Nat) (most room : Int) (its : List (Value × List Int)) (w' : World) : Prop :=
  ∃ A c, Que w' base g most room A c its ∧ Below base w w' ∧ Kept w w' (Tch w)
theorem Left.of_drewN {w w' : World} {base g : Nat} {most room : Int} {its : List (Value × List Int)} {m : Nat} (h : Left (w.drewN m) base g most room its w') : Left w base g most room its w' := by
  obtain ⟨A, c, h1, h2, h3⟩ := h
  exact ⟨A, c, h1, ⟨h2.os, h2.tape, h2.output, h2.size, h2.block⟩, h3⟩
theorem Left.drewN {w w' : World} {base g : Nat} {most room : Int} {its : List (Value × List Int)} (h : Left w base g most room its w') (m : Nat) : Left w base g most room its (w'.drewN m) := by
  obtain ⟨A, c, h1, h2, h3⟩ := h
  exact ⟨A, c, h1.drewN m, pw_below_drewN h2 m, h3.drewN m⟩
theorem popd_left {w w' : World} {base g : Nat} {most room : Int} {A : Option Addr} {c : Nat} {it : Value × List Int} {rest : List (Value × List Int)} (h : Que w base g most room A c (it :: rest)) (hp : Popd w g A rest.length w') : Left w base g most room rest w' := by
  obtain ⟨m, rfl⟩ := hp
  have h1 := h.popped
  refine Left.drewN ⟨_, _, h1, (Below.refl _ w).setCell h.hg _, ⟨by simp [World.setCell], fun k hk hn => Below.heap_setCell w _ _ k ?_⟩⟩ m
  rintro rfl
  exact hn ⟨_, _, .inl rfl, h.blk⟩
/-- Bytes of the call's own do not turn by a queue's calls. -/
theorem R_tch {w w' : World} {b : Nat} {ok : Nat → Prop} {v : Value} {l : List Int} (h : Kd.R (Kd.int .u8) 5 w b ok v l) (hk : Kept w w' (Tch w)) : Kd.R (Kd.int .u8) 5 w' b ok v l := by
  have h0 := Kd.R_kept (Kd.R_bound h) hk (fun k hb ht => by
    obtain ⟨_, _, _, q, hq, cells, hc⟩ := hb
    obtain ⟨cells', t, ht, hc'⟩ := ht
    have hq' : q = 5 := by simpa [Kd.int, Kd.scalar] using hq
    subst hq'
    rcases ht with rfl | rfl
    · exact ty_ne hc hc' (by decide) rfl
    · exact ty_ne hc hc' (by decide) rfl)
  exact Kd.R_mono h0 (fun k hk => hk.1)
theorem push_bad {w : World} {base g : Nat} {most room : Int} {A : Option Addr} {c : Nat} {its : List (Value × List Int)} (h : Que w base g most room A c its) (A0 : Option Addr) (n c0 : Nat) (hb : (n : Int) > most ∨ room = 0) :
    Calls Try.prog 20 #[.pointer (some ⟨g, 0, none⟩), .slice A0 n c0] w fun e w' => e = .returned (.tuple #[.slice none 0 0, .bool false, .int .i64 (if (n : Int) > most then 3 else 35)]) ∧ Drawn0 w w' := by
  have c2 := h.c2
  have H := Aside0.mk h
  clear h
  by_cases hm : (n : Int) > most
  · rw [if_pos hm]
    have hbad : ∀ r, bad most n r = 3 := fun r => by unfold bad; rw [if_pos hm]
    go_enter Try.func20, Try.ntmps20
    go_wp2_with (first
      | (go_at_call 38; refine (none_q H.out).mono ?_; rintro e w' ⟨rfl, rfl⟩)
      | (go_at_call 35; refine (wrong_q H.out _ _ _ _).mono ?_; rintro e w' ⟨rfl, rfl⟩))
    go_ret3
    exact ⟨rfl, Drawn0.refl _⟩
  · rw [if_neg hm]
    obtain rfl : room = 0 := by omega
    have hbad : bad most n false = 35 := by unfold bad; rw [if_neg hm]; rfl
    go_enter Try.func20, Try.ntmps20
    go_wp2_with (first
      | (go_at_call 38; refine (none_q H.out).mono ?_; rintro e w' ⟨rfl, rfl⟩)
      | (go_at_call 35; refine (wrong_q H.out _ _ _ _).mono ?_; rw [hbad]; rintro e w' ⟨rfl, rfl⟩))
    go_ret3
    exact ⟨rfl, Drawn0.refl _⟩
set_option maxRecDepth 100000 in
set_option maxHeartbeats 3200000 in
theorem push_room {w : World} {base g : Nat} {most room : Int} {A : Option Addr} {c : Nat} {its : List (Value × List Int)} (h : Que w base g most room A c its) (hbase : base ≤ w.heap.size) (A0 : Option Addr) (l : List Int) (c0 : Nat)
    (hr : Kd.C (Kd.int .u8) w A0 l.length l) (hc : l.length ≤ c0) (hl : l.length ≤ 140737488355328) (hm : ¬ (l.length : Int) > most) (hroom : ¬ (its.length : Int) ≥ room) :
    Calls Try.prog 20 #[.pointer (some ⟨g, 0, none⟩), .slice A0 l.length c0] w fun e w' => e = .returned (.tuple #[.slice none 0 0, .bool false, .int .i64 0]) ∧ Took w base g most room its l w' := by
  have c2 := h.c2
  have c3 := h.c3
  have f3 := blk_frozen h.blk 3
  have H := Aside0.mk h
  have HBase := Aside0.mk hbase
  have HR := Aside0.mk hr
  have HC := Aside0.mk (And.intro hc hl)
  have HF := Aside0.mk (show ((its.length + 1 : Nat) : Int) ≤ room by omega)
  have HM := Aside0.mk (show its.length ≤ 64 by have := h.few; have := h.r1; omega)
  have hf : decide ((its.length : Int) ≥ room) = false := decide_eq_false hroom
  have hp : 0 < room := by omega
  have hbad : bad most l.length true = 0 := by unfold bad; rw [if_neg hm]; rfl
  have HG := Aside0.mk (blk_lt h.blk)
  clear h hr hc hl hm hroom hbase
  go_enter Try.func20, Try.ntmps20
  go_wp2_with (first
    | (go_at_call 38; refine (none_q H.out).mono ?_; rintro e w' ⟨rfl, rfl⟩)
    | (go_at_call 36; refine (full_q H.out).mono ?_; rw [hf]; rintro e w' ⟨rfl, ⟨nd, rfl⟩⟩)
    | (go_at_call 35; refine (wrong_q H.out _ _ _ _).mono ?_; rw [hbad]; rintro e w' ⟨rfl, rfl⟩))
  go_region_law (first
    | (refine wr_append_step (w0 := w) base (by rfl) (.tmp 33) (.tmp 36) 43 22 (.slice none 0 0) 24 (by rfl) Try.underlying43 info22 rfl (by omega) (.slice A its.length c) (its.map (·.1)) (.slice Av l.length cv) (by rfl) (by rfl) rfl (by rw [List.length_map]; exact HRow.out) HB.out HBs.out (by have := HM.out; simp; omega) ?_; intro v2 w2 hrow hb2 hg2 hat2; rw [row_len1] at hrow; obtain ⟨A1, c1, e1, _, _⟩ := wr_slice hrow; subst e1; have HT := Aside0.mk (Que.pushed H.out HBase.out HW1.out HV1.out hg2 hrow HF.out); have k4 := hg2.cell k3 (H.out.row_ne); have f4 := (World.frozen?_of_block (hg2.block g (Nat.lt_of_lt_of_le HG.out HW1.out.size) (H.out.row_ne))).trans f5; clear k3 f5 hrow hb2 hg2 hat2)
    | (go_simp; go_at_call 37; refine (Clone.clone_calls A0 c0 l _ ?_ HC.out.1 HC.out.2).mono ?_; (first | exact Kd.C_drewN HR.out _ | exact Kd.C_drew HR.out); rintro e w1 ⟨v1, rfl, ho, hb⟩; obtain ⟨Av, cv, ev⟩ := Kd.R_slice ho; subst ev; have hw1 := below_step (first_drew w _) hb; have HV1 := Aside0.mk (show Kd.R (Kd.int .u8) 5 w1 w.heap.size (fun _ => True) (.slice Av l.length cv) l from ho); have k3 := pw_cell_below hw1 c3; have f5 := (World.frozen?_of_block (hw1.block g HG.out)).trans f3; have HRow := Aside0.mk (wr_move H.out.row (fun k hk => hw1.block k (wr_lt H.out.row k hk))); have HB := Aside0.mk (hw1.mono HBase.out); have HBs := Aside0.mk (Nat.le_trans HBase.out hw1.size); have hg1 := Nat.lt_of_lt_of_le HG.out hw1.size; have HW1 := Aside0.mk hw1; clear hw1 hb ho))
  all_goals
    go_wp2
    go_ret3
    exact ⟨rfl, A1, c1, _, HT.out⟩
set_option maxRecDepth 100000 in
set_option maxHeartbeats 3200000 in
theorem push_full {w : World} {base g : Nat} {most room : Int} {A : Option Addr} {c : Nat} {it : Value × List Int} {rest : List (Value × List Int)} (h : Que w base g most room A c (it :: rest)) (hbase : base ≤ w.heap.size) (A0 : Option Addr) (l : List Int) (c0 : Nat)
    (hr : ∀ W, Left w base g most room rest W → Kd.C (Kd.int .u8) W A0 l.length l) (hc : l.length ≤ c0) (hl : l.length ≤ 140737488355328) (hm : ¬ (l.length : Int) > most) (hroom : ((rest.length + 1 : Nat) : Int) ≥ room) :
    Calls Try.prog 20 #[.pointer (some ⟨g, 0, none⟩), .slice A0 l.length c0] w fun e w' => e = .returned (.tuple #[it.1, .bool true, .int .i64 0]) ∧ ∃ w1, Left w base g most room rest w1 ∧ Took w1 base g most room rest l w' := by
  have c2 := h.c2
  have H := Aside0.mk h
  have hs := Kd.R_slice (h.own it List.mem_cons_self)
  obtain ⟨v, li⟩ := it
  obtain ⟨Ai, ci, ei⟩ := hs
  simp only at ei
  subst ei
  have HBase := Aside0.mk hbase
  have HR := Aside0.mk hr
  have HC := Aside0.mk (And.intro hc hl)
  have hfew := h.few
  simp only [List.length_cons] at hfew
  have HF := Aside0.mk (show ((rest.length + 1 : Nat) : Int) ≤ room by omega)
  have HM := Aside0.mk (show rest.length ≤ 64 by have := h.r1; omega)
  have hf : decide ((((Value.slice Ai li.length ci, li) :: rest).length : Int) ≥ room) = true := decide_eq_true (by rw [List.length_cons]; exact hroom)
  have hp : 0 < room := by omega
  have hbad : bad most l.length true = 0 := by unfold bad; rw [if_neg hm]; rfl
  clear h hr hc hl hm hroom hbase hfew
  go_enter Try.func20, Try.ntmps20
  go_wp2_with (first
    | (go_at_call 38; refine (none_q H.out).mono ?_; rintro e w' ⟨rfl, rfl⟩)
    | (go_at_call 36; refine (full_q H.out).mono ?_; rw [hf]; rintro e w' ⟨rfl, ⟨nd, rfl⟩⟩)
    | (go_at_call 35; refine (wrong_q H.out _ _ _ _).mono ?_; rw [hbad]; rintro e w' ⟨rfl, rfl⟩)
    | (go_at_call 39; refine (pop_q (H.out.drewN _)).mono ?_; rintro e wp ⟨rfl, hpop⟩; have HP := Aside0.mk (Left.of_drewN (popd_left (H.out.drewN _) hpop)); clear hpop hf c2))
  obtain ⟨Ap, cp, hq, hbw, hkw⟩ := HP.out
  have c3 := hq.c3
  have f3 := blk_frozen hq.blk 3
  have HQ := Aside0.mk hq
  have HBase1 := Aside0.mk (Nat.le_trans HBase.out hbw.size)
  have HR1 := Aside0.mk (HR.out wp HP.out)
  have HG := Aside0.mk (blk_lt hq.blk)
  clear hq hbw hkw
  go_region_law (first
    | (refine wr_append_step (w0 := wp) base (by rfl) (.tmp 33) (.tmp 36) 43 22 (.slice none 0 0) 24 (by rfl) Try.underlying43 info22 rfl (by omega) (.slice Ap rest.length cp) (rest.map (·.1)) (.slice Av l.length cv) (by rfl) (by rfl) rfl (by rw [List.length_map]; exact HRow.out) HB.out HBs.out (by have := HM.out; simp; omega) ?_; intro v2 w2 hrow hb2 hg2 hat2; rw [row_len1] at hrow; obtain ⟨A1, c1, e1, _, _⟩ := wr_slice hrow; subst e1; have HT := Aside0.mk (Que.pushed HQ.out HBase1.out HW1.out HV1.out hg2 hrow HF.out); have k4 := hg2.cell k3 (HQ.out.row_ne); have f4 := (World.frozen?_of_block (hg2.block g (Nat.lt_of_lt_of_le HG.out HW1.out.size) (HQ.out.row_ne))).trans f5; clear k3 f5 hrow hb2 hg2 hat2)
    | (go_simp; go_at_call 37; refine (Clone.clone_calls A0 c0 l _ ?_ HC.out.1 HC.out.2).mono ?_; (first | exact Kd.C_drewN HR1.out _ | exact Kd.C_drew HR1.out); rintro e w1 ⟨v1, rfl, ho, hb⟩; obtain ⟨Av, cv, ev⟩ := Kd.R_slice ho; subst ev; have hw1 := below_step (first_drew wp _) hb; have HV1 := Aside0.mk (show Kd.R (Kd.int .u8) 5 w1 wp.heap.size (fun _ => True) (.slice Av l.length cv) l from ho); have k3 := pw_cell_below hw1 c3; have f5 := (World.frozen?_of_block (hw1.block g HG.out)).trans f3; have HRow := Aside0.mk (wr_move HQ.out.row (fun k hk => hw1.block k (wr_lt HQ.out.row k hk))); have HB := Aside0.mk (hw1.mono HBase1.out); have HBs := Aside0.mk (Nat.le_trans HBase1.out hw1.size); have hg1 := Nat.lt_of_lt_of_le HG.out hw1.size; have HW1 := Aside0.mk hw1; clear hw1 hb ho))
  all_goals
    go_wp2
    go_ret3
    exact ⟨rfl, wp, HP.out, A1, c1, _, HT.out⟩
end Go.Proofs.Ytpilpgdlgkndmaa.Dg
namespace Go.Proofs.Ytpilpgdlgkndmaa.Dg
open Go.RowKit Go.Proofs.YtpilpgdlgkndmaaW.PrintWords Go.Proofs.YtpilpgdlgkndmaaW.PrintLast Go.Proofs.YtpilpgdlgkndmaaW.PrintMore Go.Proofs.Ytpilpgdlgkndmaa.Rw
theorem new_bad (most room : Int) (w : World) (h : most < 0 ∨ most > 65535 ∨ room < 0 ∨ room > 64) :
    Calls Try.prog 11 #[.int .i64 most, .int .i64 room] w fun e w' => e = .returned (.tuple #[.pointer none, .int .i64 2]) ∧ w = w' := by
  by_cases h1 : most < 0
  · go_enter Try.func11, Try.ntmps11
    go_wp2
    go_ret2
    exact ⟨rfl, rfl⟩
  by_cases h2 : most > 65535
  · go_enter Try.func11, Try.ntmps11
    go_wp2
    go_ret2
    exact ⟨rfl, rfl⟩
  by_cases h3 : room < 0
  · go_enter Try.func11, Try.ntmps11
    go_wp2
    go_ret2
    exact ⟨rfl, rfl⟩
  · have h4 : room > 64 := by omega
    go_enter Try.func11, Try.ntmps11
    go_wp2
    go_ret2
    exact ⟨rfl, rfl⟩
theorem new_good (most room : Int) (w : World) (h0 : 0 ≤ most) (h1 : most ≤ 65535) (h2 : 0 ≤ room) (h3 : room ≤ 64) :
    Calls Try.prog 11 #[.int .i64 most, .int .i64 room] w fun e w' => e = .returned (.tuple #[.pointer (some ⟨w.heap.size, 0, none⟩), .int .i64 0]) ∧ w' = w.alloc (.cells #[.bool true, .int .i64 most, .int .i64 room, .slice none 0 0] 54) := by
  go_enter Try.func11, Try.ntmps11
  go_wp2
  go_ret2
  exact ⟨rfl, rfl⟩
theorem new_que (most room : Int) (w : World) (h2 : 0 ≤ room) (h3 : room ≤ 64) : Que (w.alloc (.cells #[.bool true, .int .i64 most, .int .i64 room, .slice none 0 0] 54)) w.heap.size w.heap.size most room none 0 [] :=
  ⟨Nat.le_refl _, heap_alloc_new w _, wr_nil _ _ _ _, (fun it h => by cases h), List.Pairwise.nil, h2, h3, by simpa using h2⟩
end Go.Proofs.Ytpilpgdlgkndmaa.Dg
