/- The middle of a round of DatagramsPlay: what is in memory, and what each call makes of it; no condition. -/
import Derived.Test.YtpilpgdlgkndmaaDgRef
import Derived.Deep.CutRange
import Derived.Deep.CutBlock
set_option linter.unusedVariables false
set_option linter.unusedSimpArgs false
namespace Go.Proofs.Ytpilpgdlgkndmaa.Dg
open Go.RowKit Go.Proofs.YtpilpgdlgkndmaaW.PrintWords Go.Proofs.YtpilpgdlgkndmaaW.PrintLast Go.Proofs.YtpilpgdlgkndmaaW.PrintMore Go.Proofs.Ytpilpgdlgkndmaa.Rw
theorem names22 (w : World) : Calls Try.prog 27 #[] w fun e w' => e = .returned (.bool true) ∧ w = w' := by
  go_enter Try.func27, Try.ntmps27
  go_wp2
  go_ret
  exact ⟨rfl, rfl⟩
/-- An act: its kind, its bytes, its number. -/
abbrev ActD : Type := Int × List Int × Int
abbrev actK : Kd ActD := Kd.pair (Kd.int .i64) (Kd.pair (Kd.slice 5 (Kd.int .u8)) (Kd.int .i64))
theorem came_act {w : World} {A : Option Addr} {xs : List ActD} {k : Nat} {x : ActD} (h : Kd.C actK w A xs.length xs) (hk : xs[k]? = some x) :
    ∃ ad A' c', A = some ad ∧ w.cell? (ad.add (k * 3)) = some (.int .i64 x.1) ∧ w.cell? (ad.add (k * 3 + 1)) = some (.slice A' x.2.1.length c') ∧ w.cell? (ad.add (k * 3 + 2)) = some (.int .i64 x.2.2) ∧ x.2.1.length ≤ c' ∧ Kd.C (Kd.int .u8) w A' x.2.1.length x.2.1 := by
  have hlt := (List.getElem?_eq_some_iff.1 hk).1
  obtain ⟨ad, hA, hq⟩ := h.2.2 (by omega)
  obtain ⟨cs, _, ⟨c0, c1, rfl, h0, ⟨c2, c3, rfl, ⟨A', c', h2, hl, hC⟩, h3⟩⟩, hcell⟩ := hq k x hk
  have e0 : c0 = [.int .i64 x.1] := h0
  have e3 : c3 = [.int .i64 x.2.2] := h3
  subst e0; subst e3; subst h2
  have g0 := hcell 0 _ rfl
  have g1 := hcell 1 _ rfl
  have g2 := hcell 2 _ rfl
  exact ⟨ad, A', c', hA, g0, g1, g2, hl, hC⟩
theorem Que.below {w w' : World} {base g : Nat} {most room : Int} {A : Option Addr} {c : Nat} {its : List (Value × List Int)} (h : Que w base g most room A c its) (hb : Below w.heap.size w w') : Que w' base g most room A c its :=
  ⟨h.hg, (hb.block g (blk_lt h.blk)).trans h.blk, wr_move h.row (fun k hk => hb.block k (wr_lt h.row k hk)), fun it hi => Kd.R_below (h.own it hi) hb, h.apart, h.r0, h.r1, h.few⟩
theorem RQue.below {w w' : World} {base g : Nat} {most room : Int} {A : Option Addr} {c : Nat} {ls : List (List Int)} (h : RQue w base g most room A c ls) (hb : Below w.heap.size w w') : RQue w' base g most room A c ls :=
  ⟨h.hg, (hb.block g (blk_lt h.blk)).trans h.blk, wr_move h.row (fun k hk => hb.block k (wr_lt h.row k hk)), h.r0, h.r1, h.few⟩
def PRel (w : World) (most room : Int) (n : Nat) (i : Value) (W : World) : Prop :=
  ∃ (k : Nat) (A : Option Addr) (c : Nat) (its : List (Value × List Int)) (A2 : Option Addr) (c2 : Nat),
    k ≤ n ∧ i = .int .i64 k ∧ Below w.heap.size w W ∧ Que W w.heap.size w.heap.size most room A c its ∧ RQue W w.heap.size (w.heap.size + 1) most room A2 c2 (its.map (·.2))
/-- Each item lies apart from a row. -/
def Off (v : Value) (its : List (Value × List Int)) : Prop := ∀ it ∈ its, Apart it.1 v
/-- In the middle of a round: the act's copy, the bytes handed on, both queues. -/
structure St (w W : World) (most room : Int) (ga : Nat) (kd : Int) (Ak : Option Addr) (bl : List Int) (ck : Nat) (N : Int) (Ai : Option Addr) (ci : Nat) (A : Option Addr) (c : Nat) (its : List (Value × List Int)) (A2 : Option Addr) (c2 : Nat) (ls : List (List Int)) : Prop where
  hb : Below w.heap.size w W
  hga : w.heap.size ≤ ga
  blk : W.heap[ga]? = some (.cells #[.int .i64 kd, .slice Ak bl.length ck, .int .i64 N] 50 (0, 0))
  inn : Kd.R (Kd.int .u8) 5 W w.heap.size (fun _ => True) (.slice Ai bl.length ci) bl
  q : Que W w.heap.size w.heap.size most room A c its
  r : RQue W w.heap.size (w.heap.size + 1) most room A2 c2 ls
  off : Off (.slice Ai bl.length ci) its
theorem st_start {w wr w3 : World} {most room kd N : Int} {Ak Ai A A2 : Option Addr} {bl : List Int} {ck ci c c2 : Nat} {its : List (Value × List Int)} (hb : Below w.heap.size w wr) (q : Que wr w.heap.size w.heap.size most room A c its) (r : RQue wr w.heap.size (w.heap.size + 1) most room A2 c2 (its.map (·.2)))
    (h3 : Below (wr.alloc (.cells #[.int .i64 kd, .slice Ak bl.length ck, .int .i64 N] 50)).heap.size (wr.alloc (.cells #[.int .i64 kd, .slice Ak bl.length ck, .int .i64 N] 50)) w3)
    (ho : Kd.R (Kd.int .u8) 5 w3 (wr.alloc (.cells #[.int .i64 kd, .slice Ak bl.length ck, .int .i64 N] 50)).heap.size (fun _ => True) (.slice Ai bl.length ci) bl) :
    St w w3 most room wr.heap.size kd Ak bl ck N Ai ci A c its A2 c2 (its.map (·.2)) := by
  have hw : Below wr.heap.size wr w3 := below_step (below_alloc (Below.refl _ wr) _) h3
  have hs := hb.size
  refine ⟨hb.trans (hw.mono hs), hs, (h3.block wr.heap.size (by simp)).trans (heap_alloc_new wr _), Kd.R_lower ho (by simp; omega), q.below hw, r.below hw, fun it hi b h1 h2 => ?_⟩
  have := Kd.R_lt (q.own it hi) b h1
  have := Kd.R_base ho b h2
  simp at this
  omega
theorem St.drewN {w W : World} {most room kd N : Int} {ga ck ci c c2 : Nat} {Ak Ai A A2 : Option Addr} {bl : List Int} {its : List (Value × List Int)} {ls : List (List Int)} (h : St w W most room ga kd Ak bl ck N Ai ci A c its A2 c2 ls) (m : Nat) : St w (W.drewN m) most room ga kd Ak bl ck N Ai ci A c its A2 c2 ls :=
  ⟨pw_below_drewN h.hb m, h.hga, h.blk, Kd.R_drewN h.inn m, h.q.drewN m, h.r.drewN m, h.off⟩
theorem St.a0 {w W : World} {most room kd N : Int} {ga ck ci c c2 : Nat} {Ak Ai A A2 : Option Addr} {bl : List Int} {its : List (Value × List Int)} {ls : List (List Int)} (h : St w W most room ga kd Ak bl ck N Ai ci A c its A2 c2 ls) : W.cell? ⟨ga, 0, none⟩ = some (.int .i64 kd) := by rw [cell_of_row W ga _ _ _ _ h.blk]; rfl
theorem St.a1 {w W : World} {most room kd N : Int} {ga ck ci c c2 : Nat} {Ak Ai A A2 : Option Addr} {bl : List Int} {its : List (Value × List Int)} {ls : List (List Int)} (h : St w W most room ga kd Ak bl ck N Ai ci A c its A2 c2 ls) : W.cell? ⟨ga, 1, none⟩ = some (.slice Ak bl.length ck) := by rw [cell_of_row W ga _ _ _ _ h.blk]; rfl
theorem St.a2 {w W : World} {most room kd N : Int} {ga ck ci c c2 : Nat} {Ak Ai A A2 : Option Addr} {bl : List Int} {its : List (Value × List Int)} {ls : List (List Int)} (h : St w W most room ga kd Ak bl ck N Ai ci A c its A2 c2 ls) : W.cell? ⟨ga, 2, none⟩ = some (.int .i64 N) := by rw [cell_of_row W ga _ _ _ _ h.blk]; rfl
/-- The queue's call: it left these. -/
theorem St.left {w W : World} {most room kd N : Int} {ga ck ci c c2 : Nat} {Ak Ai A A2 : Option Addr} {bl : List Int} {its : List (Value × List Int)} {ls : List (List Int)} {W1 : World} {A' : Option Addr} {c' : Nat} {its' : List (Value × List Int)} (h : St w W most room ga kd Ak bl ck N Ai ci A c its A2 c2 ls) (q : Que W1 w.heap.size w.heap.size most room A' c' its') (hb : Below w.heap.size W W1) (hk : Kept W W1 (Tch W))
    (off : Off (.slice Ai bl.length ci) its') : St w W1 most room ga kd Ak bl ck N Ai ci A' c' its' A2 c2 ls := by
  refine ⟨h.hb.trans hb, h.hga, (hk.2 ga (blk_lt h.blk) (fun ht => tch_no (by decide) (by decide) ga _ ht h.blk)).trans h.blk, R_tch h.inn hk, q, ⟨h.r.hg, (hk.2 _ (blk_lt h.r.blk) (fun ht => tch_no (by decide) (by decide) _ _ ht h.r.blk)).trans h.r.blk, wr_kept h.r.row hk (tch_no (by decide) (by decide)), h.r.r0, h.r.r1, h.r.few⟩, off⟩
theorem St.took {w W : World} {most room kd N : Int} {ga ck ci c c2 : Nat} {Ak Ai A A2 : Option Addr} {bl : List Int} {its : List (Value × List Int)} {ls : List (List Int)} {W1 : World} {l : List Int} (h : St w W most room ga kd Ak bl ck N Ai ci A c its A2 c2 ls) (ht : Took W w.heap.size w.heap.size most room its l W1) : ∃ A' c' v, St w W1 most room ga kd Ak bl ck N Ai ci A' c' (its ++ [(v, l)]) A2 c2 ls := by
  obtain ⟨A', c', v, hq, hb, hk, hv⟩ := ht
  refine ⟨A', c', v, h.left hq hb hk (fun it hi b h1 h2 => ?_)⟩
  rcases List.mem_append.1 hi with hi | hi
  · exact h.off it hi b h1 h2
  · rw [List.mem_singleton.1 hi] at h1
    have := Kd.R_base hv b h1
    have := Kd.R_lt h.inn b h2
    omega
theorem trr {w : World} {e : Nat} (h1 : e ≠ 74) (h2 : e ≠ 9) : ∀ k cells, TchR w k → w.heap[k]? = some (.cells cells e (0, 0)) → False := fun k cells ht hc => by
  obtain ⟨cells', t, ht, hc'⟩ := ht
  rcases ht with rfl | rfl
  · exact ty_ne hc hc' h1 rfl
  · exact ty_ne hc hc' h2 rfl
theorem R_tr {w w' : World} {b : Nat} {ok : Nat → Prop} {v : Value} {l : List Int} (h : Kd.R (Kd.int .u8) 5 w b ok v l) (hk : Kept w w' (TchR w)) : Kd.R (Kd.int .u8) 5 w' b ok v l := by
  have h0 := Kd.R_kept (Kd.R_bound h) hk (fun k hb ht => by
    obtain ⟨_, _, _, q, hq, cells, hc⟩ := hb
    have hq' : q = 5 := by simpa [Kd.int, Kd.scalar] using hq
    subst hq'
    exact trr (by decide) (by decide) k _ ht hc)
  exact Kd.R_mono h0 (fun k hk => hk.1)
/-- The document's queue's call: it left these. -/
theorem St.rleft {w W : World} {most room kd N : Int} {ga ck ci c c2 : Nat} {Ak Ai A A2 : Option Addr} {bl : List Int} {its : List (Value × List Int)} {ls : List (List Int)} {W1 : World} {ls' : List (List Int)} (h : St w W most room ga kd Ak bl ck N Ai ci A c its A2 c2 ls) (hl : RLeft W w.heap.size (w.heap.size + 1) most room ls' W1) : ∃ A2' c2', St w W1 most room ga kd Ak bl ck N Ai ci A c its A2' c2' ls' := by
  obtain ⟨A2', c2', r, hb, hk⟩ := hl
  exact ⟨A2', c2', h.hb.trans hb, h.hga, (hk.2 ga (blk_lt h.blk) (fun ht => trr (by decide) (by decide) ga _ ht h.blk)).trans h.blk, R_tr h.inn hk,
    ⟨h.q.hg, (hk.2 _ (blk_lt h.q.blk) (fun ht => trr (by decide) (by decide) _ _ ht h.q.blk)).trans h.q.blk, wr_kept h.q.row hk (trr (by decide) (by decide)), fun it hi => R_tr (h.q.own it hi) hk, h.q.apart, h.q.r0, h.q.r1, h.q.few⟩, r, h.off⟩
theorem St.innC {w W : World} {most room kd N : Int} {ga ck ci c c2 : Nat} {Ak Ai A A2 : Option Addr} {bl : List Int} {its : List (Value × List Int)} {ls : List (List Int)} (h : St w W most room ga kd Ak bl ck N Ai ci A c its A2 c2 ls) : bl.length ≤ ci ∧ Kd.C (Kd.int .u8) W Ai bl.length bl := ⟨(Kd.R_reads' h.inn).2.1, (Kd.R_reads' h.inn).2.2⟩
/-- What the switch leaves. -/
def CutR (w : World) (most room : Int) (ga : Nat) (kd : Int) (Ak : Option Addr) (bl : List Int) (ck : Nat) (N : Int) (Ai : Option Addr) (ci : Nat) (W : World) : Prop :=
  ∃ A c its A2 c2, St w W most room ga kd Ak bl ck N Ai ci A c its A2 c2 (its.map (·.2))
/-- A copy of the act's bytes reads as they came. -/
theorem st_put_bad {w W : World} {most room kd N : Int} {ga ck ci c c2 : Nat} {Ak Ai A A2 : Option Addr} {bl : List Int} {its : List (Value × List Int)} {ls : List (List Int)} (h : St w W most room ga kd Ak bl ck N Ai ci A c its A2 c2 ls) (m : Nat) (hb : (bl.length : Int) > most ∨ (its.length : Int) ≥ room) :
    Calls Try.prog 12 #[.pointer (some ⟨w.heap.size, 0, none⟩), .slice Ai bl.length ci] (W.drewN m) fun e W1 => e = .returned (.int .i64 (if (bl.length : Int) > most then 3 else 35)) ∧ St w W1 most room ga kd Ak bl ck N Ai ci A c its A2 c2 ls := by
  refine (put_bad (h.q.drewN m) Ai bl.length ci hb).mono ?_
  rintro e W1 ⟨rfl, ⟨n, rfl⟩⟩
  exact ⟨rfl, (h.drewN m).drewN n⟩
theorem st_put_good {w W : World} {most room kd N : Int} {ga ck ci c c2 : Nat} {Ak Ai A A2 : Option Addr} {bl : List Int} {its : List (Value × List Int)} {ls : List (List Int)} (h : St w W most room ga kd Ak bl ck N Ai ci A c its A2 c2 ls) (m : Nat) (hl : bl.length ≤ 140737488351232) (hm : ¬ (bl.length : Int) > most) (hroom : ¬ (its.length : Int) ≥ room) :
    Calls Try.prog 12 #[.pointer (some ⟨w.heap.size, 0, none⟩), .slice Ai bl.length ci] (W.drewN m) fun e W1 => e = .returned (.int .i64 0) ∧ ∃ A' c' v, St w W1 most room ga kd Ak bl ck N Ai ci A' c' (its ++ [(v, bl)]) A2 c2 ls := by
  refine (put_good (h.q.drewN m) (h.drewN m).hb.size Ai bl ci (h.drewN m).innC.2 h.innC.1 (by omega) hm hroom).mono ?_
  rintro e W1 ⟨rfl, ht⟩
  exact ⟨rfl, (h.drewN m).took ht⟩
theorem st_rput_bad {w W : World} {most room kd N : Int} {ga ck ci c c2 : Nat} {Ak Ai A A2 : Option Addr} {bl : List Int} {its : List (Value × List Int)} {ls : List (List Int)} (h : St w W most room ga kd Ak bl ck N Ai ci A c its A2 c2 ls) (m : Nat) (hb : (bl.length : Int) > most ∨ (ls.length : Int) ≥ room) :
    Calls Try.prog 28 #[.pointer (some ⟨w.heap.size + 1, 0, none⟩), .slice Ak bl.length ck] (W.drewN m) fun e W1 => e = .returned (.int .i64 (if (bl.length : Int) > most then 3 else 35)) ∧ St w W1 most room ga kd Ak bl ck N Ai ci A c its A2 c2 ls := by
  refine (rput_bad (h.r.drewN m) Ak bl.length ck hb).mono ?_
  rintro e W1 ⟨rfl, ⟨n, rfl⟩⟩
  exact ⟨rfl, (h.drewN m).drewN n⟩
theorem st_rput_good {w W : World} {most room kd N : Int} {ga ck ci c c2 : Nat} {Ak Ai A A2 : Option Addr} {bl : List Int} {its : List (Value × List Int)} {ls : List (List Int)} (h : St w W most room ga kd Ak bl ck N Ai ci A c its A2 c2 ls) (m : Nat) (hC : Kd.C (Kd.int .u8) w Ak bl.length bl) (hm : ¬ (bl.length : Int) > most) (hroom : ¬ (ls.length : Int) ≥ room) :
    Calls Try.prog 28 #[.pointer (some ⟨w.heap.size + 1, 0, none⟩), .slice Ak bl.length ck] (W.drewN m) fun e W1 => e = .returned (.int .i64 0) ∧ ∃ A' c', St w W1 most room ga kd Ak bl ck N Ai ci A c its A' c' (ls ++ [bl]) := by
  refine (rput_good (h.r.drewN m) (h.drewN m).hb.size Ak bl ck (Kd.C_below hC (h.drewN m).hb) hm hroom).mono ?_
  rintro e W1 ⟨rfl, ht⟩
  exact ⟨rfl, (h.drewN m).rleft ht⟩
theorem St.two {w W : World} {most room kd N : Int} {ga ck ci c c2 : Nat} {Ak Ai A A2 : Option Addr} {bl : List Int} {it : Value × List Int} {rest : List (Value × List Int)} {ls : List (List Int)} {W1 : World} {A' : Option Addr} {c' : Nat} {its' : List (Value × List Int)} (h : St w W most room ga kd Ak bl ck N Ai ci A c (it :: rest) A2 c2 ls) (q : Que W1 w.heap.size w.heap.size most room A' c' its') (hb : Below w.heap.size W W1) (hk : Kept W W1 (Tch W)) (hs : ∀ x ∈ its', x ∈ rest) :
    St w W1 most room ga kd Ak bl ck N Ai ci A' c' its' A2 c2 ls := h.left q hb hk (fun x hx => h.off x (List.mem_cons_of_mem _ (hs x hx)))
theorem st_push_bad {w W : World} {most room kd N : Int} {ga ck ci c c2 : Nat} {Ak Ai A A2 : Option Addr} {bl : List Int} {its : List (Value × List Int)} {ls : List (List Int)} (h : St w W most room ga kd Ak bl ck N Ai ci A c its A2 c2 ls) (m : Nat) (hb : (bl.length : Int) > most ∨ room = 0) :
    Calls Try.prog 20 #[.pointer (some ⟨w.heap.size, 0, none⟩), .slice Ai bl.length ci] (W.drewN m) fun e W1 => e = .returned (.tuple #[.slice none 0 0, .bool false, .int .i64 (if (bl.length : Int) > most then 3 else 35)]) ∧ St w W1 most room ga kd Ak bl ck N Ai ci A c its A2 c2 ls := by
  refine (push_bad (h.q.drewN m) Ai bl.length ci hb).mono ?_
  rintro e W1 ⟨rfl, ⟨n, rfl⟩⟩
  exact ⟨rfl, (h.drewN m).drewN n⟩
theorem st_push_room {w W : World} {most room kd N : Int} {ga ck ci c c2 : Nat} {Ak Ai A A2 : Option Addr} {bl : List Int} {its : List (Value × List Int)} {ls : List (List Int)} (h : St w W most room ga kd Ak bl ck N Ai ci A c its A2 c2 ls) (m : Nat) (hl : bl.length ≤ 140737488351232) (hm : ¬ (bl.length : Int) > most) (hroom : ¬ (its.length : Int) ≥ room) :
    Calls Try.prog 20 #[.pointer (some ⟨w.heap.size, 0, none⟩), .slice Ai bl.length ci] (W.drewN m) fun e W1 => e = .returned (.tuple #[.slice none 0 0, .bool false, .int .i64 0]) ∧ ∃ A' c' v, St w W1 most room ga kd Ak bl ck N Ai ci A' c' (its ++ [(v, bl)]) A2 c2 ls := by
  refine (push_room (h.q.drewN m) (h.drewN m).hb.size Ai bl ci (h.drewN m).innC.2 h.innC.1 (by omega) hm hroom).mono ?_
  rintro e W1 ⟨rfl, ht⟩
  exact ⟨rfl, (h.drewN m).took ht⟩
theorem st_push_full {w W : World} {most room kd N : Int} {ga ck ci c c2 : Nat} {Ak Ai A A2 : Option Addr} {bl : List Int} {it : Value × List Int} {rest : List (Value × List Int)} {ls : List (List Int)} (h : St w W most room ga kd Ak bl ck N Ai ci A c (it :: rest) A2 c2 ls) (m : Nat) (hl : bl.length ≤ 140737488351232) (hm : ¬ (bl.length : Int) > most) (hroom : ((rest.length + 1 : Nat) : Int) ≥ room) :
    Calls Try.prog 20 #[.pointer (some ⟨w.heap.size, 0, none⟩), .slice Ai bl.length ci] (W.drewN m) fun e W1 => e = .returned (.tuple #[it.1, .bool true, .int .i64 0]) ∧ ∃ A' c' v, St w W1 most room ga kd Ak bl ck N Ai ci A' c' (rest ++ [(v, bl)]) A2 c2 ls ∧ Kd.R (Kd.int .u8) 5 W1 w.heap.size (fun _ => True) it.1 it.2 := by
  have hd := h.drewN m
  refine (push_full hd.q hd.hb.size Ai bl ci (fun W' hW => ?_) h.innC.1 (by omega) hm hroom).mono ?_
  · obtain ⟨_, _, _, _, hk⟩ := hW
    exact (Kd.R_reads' (R_tch hd.inn hk)).2.2
  rintro e W1 ⟨rfl, wp, ⟨A', c', q, hb, hk⟩, ht⟩
  have hp := hd.two q hb hk (fun x hx => hx)
  obtain ⟨A'', c'', v, h2⟩ := hp.took ht
  obtain ⟨_, _, _, _, _, hk2, _⟩ := ht
  exact ⟨rfl, A'', c'', v, h2, R_tch (R_tch (hd.q.own it List.mem_cons_self) hk) hk2⟩
theorem st_rpush_bad {w W : World} {most room kd N : Int} {ga ck ci c c2 : Nat} {Ak Ai A A2 : Option Addr} {bl : List Int} {its : List (Value × List Int)} {ls : List (List Int)} (h : St w W most room ga kd Ak bl ck N Ai ci A c its A2 c2 ls) (m : Nat) (hb : (bl.length : Int) > most ∨ room = 0) :
    Calls Try.prog 29 #[.pointer (some ⟨w.heap.size + 1, 0, none⟩), .slice Ak bl.length ck] (W.drewN m) fun e W1 => e = .returned (.tuple #[.string ⟨#[]⟩, .bool false, .int .i64 (if (bl.length : Int) > most then 3 else 35)]) ∧ St w W1 most room ga kd Ak bl ck N Ai ci A c its A2 c2 ls := by
  refine (rpush_bad (h.r.drewN m) Ak bl.length ck hb).mono ?_
  rintro e W1 ⟨rfl, ⟨n, rfl⟩⟩
  exact ⟨rfl, (h.drewN m).drewN n⟩
theorem st_rpush_room {w W : World} {most room kd N : Int} {ga ck ci c c2 : Nat} {Ak Ai A A2 : Option Addr} {bl : List Int} {its : List (Value × List Int)} {ls : List (List Int)} (h : St w W most room ga kd Ak bl ck N Ai ci A c its A2 c2 ls) (m : Nat) (hC : Kd.C (Kd.int .u8) w Ak bl.length bl) (hm : ¬ (bl.length : Int) > most) (hroom : ¬ (ls.length : Int) ≥ room) :
    Calls Try.prog 29 #[.pointer (some ⟨w.heap.size + 1, 0, none⟩), .slice Ak bl.length ck] (W.drewN m) fun e W1 => e = .returned (.tuple #[.string ⟨#[]⟩, .bool false, .int .i64 0]) ∧ ∃ A' c', St w W1 most room ga kd Ak bl ck N Ai ci A c its A' c' (ls ++ [bl]) := by
  refine (rpush_room (h.r.drewN m) (h.drewN m).hb.size Ak bl ck (Kd.C_below hC (h.drewN m).hb) hm hroom).mono ?_
  rintro e W1 ⟨rfl, ht⟩
  exact ⟨rfl, (h.drewN m).rleft ht⟩
theorem st_rpush_full {w W : World} {most room kd N : Int} {ga ck ci c c2 : Nat} {Ak Ai A A2 : Option Addr} {bl : List Int} {its : List (Value × List Int)} {l0 : List Int} {rest : List (List Int)} (h : St w W most room ga kd Ak bl ck N Ai ci A c its A2 c2 (l0 :: rest)) (m : Nat) (hC : Kd.C (Kd.int .u8) w Ak bl.length bl) (hm : ¬ (bl.length : Int) > most) (hroom : ((rest.length + 1 : Nat) : Int) ≥ room) (hr0 : 0 < room) :
    Calls Try.prog 29 #[.pointer (some ⟨w.heap.size + 1, 0, none⟩), .slice Ak bl.length ck] (W.drewN m) fun e W1 => e = .returned (.tuple #[.string (strOfNums l0), .bool true, .int .i64 0]) ∧ (∃ A' c', St w W1 most room ga kd Ak bl ck N Ai ci A c its A' c' (rest ++ [bl])) ∧ ∀ v l, Kd.R (Kd.int .u8) 5 W w.heap.size (fun _ => True) v l → Kd.R (Kd.int .u8) 5 W1 w.heap.size (fun _ => True) v l := by
  have hd := h.drewN m
  refine (rpush_full hd.r hd.hb.size Ak bl ck (fun W' hW => ?_) hm hroom hr0).mono ?_
  · obtain ⟨_, _, _, hb, _⟩ := hW
    exact Kd.C_below hC (hd.hb.trans hb)
  rintro e W1 ⟨rfl, wp, hl1, hl2⟩
  obtain ⟨A', c', h1⟩ := hd.rleft hl1
  obtain ⟨_, _, _, _, hk1⟩ := hl1
  have h2 := h1.rleft hl2
  obtain ⟨_, _, _, _, hk2⟩ := hl2
  exact ⟨rfl, h2, fun v l hv => R_tr (R_tr (Kd.R_drewN hv m) hk1) hk2⟩
theorem st_next_none {w W : World} {most room kd N : Int} {ga ck ci c c2 : Nat} {Ak Ai A A2 : Option Addr} {bl : List Int} {ls : List (List Int)} (h : St w W most room ga kd Ak bl ck N Ai ci A c [] A2 c2 ls) (m : Nat) (n : Int) :
    Calls Try.prog 13 #[.pointer (some ⟨w.heap.size, 0, none⟩), .int .i64 n] (W.drewN m) fun e W1 => e = .returned (.tuple #[.slice none 0 0, .bool false]) ∧ St w W1 most room ga kd Ak bl ck N Ai ci A c [] A2 c2 ls := by
  refine (next_none (h.q.drewN m) n).mono ?_
  rintro e W1 ⟨rfl, rfl⟩
  exact ⟨rfl, h.drewN m⟩
theorem st_next_long {w W : World} {most room kd N : Int} {ga ck ci c c2 : Nat} {Ak Ai A A2 : Option Addr} {bl : List Int} {it : Value × List Int} {rest : List (Value × List Int)} {ls : List (List Int)} (h : St w W most room ga kd Ak bl ck N Ai ci A c (it :: rest) A2 c2 ls) (m : Nat) (n : Int) (hn : n < it.2.length) :
    Calls Try.prog 13 #[.pointer (some ⟨w.heap.size, 0, none⟩), .int .i64 n] (W.drewN m) fun e W1 => e = .returned (.tuple #[.slice none 0 0, .bool false]) ∧ St w W1 most room ga kd Ak bl ck N Ai ci A c (it :: rest) A2 c2 ls := by
  refine (next_long (h.q.drewN m) n hn).mono ?_
  rintro e W1 ⟨rfl, rfl⟩
  exact ⟨rfl, h.drewN m⟩
theorem st_next_pop {w W : World} {most room kd N : Int} {ga ck ci c c2 : Nat} {Ak Ai A A2 : Option Addr} {bl : List Int} {it : Value × List Int} {rest : List (Value × List Int)} {ls : List (List Int)} (h : St w W most room ga kd Ak bl ck N Ai ci A c (it :: rest) A2 c2 ls) (m : Nat) (n : Int) (hn : (it.2.length : Int) ≤ n) :
    Calls Try.prog 13 #[.pointer (some ⟨w.heap.size, 0, none⟩), .int .i64 n] (W.drewN m) fun e W1 => e = .returned (.tuple #[it.1, .bool true]) ∧ ∃ A' c', St w W1 most room ga kd Ak bl ck N Ai ci A' c' rest A2 c2 ls ∧ Kd.R (Kd.int .u8) 5 W1 w.heap.size (fun _ => True) it.1 it.2 ∧ Off it.1 rest ∧ Apart it.1 (.slice Ai bl.length ci) := by
  have hd := h.drewN m
  refine (next_pop hd.q n hn).mono ?_
  rintro e W1 ⟨rfl, hp⟩
  obtain ⟨A', c', q, hb, hk⟩ := popd_left hd.q hp
  refine ⟨rfl, A', c', hd.two q hb hk (fun x hx => hx), R_tch (hd.q.own it List.mem_cons_self) hk, fun x hx b h1 h2 => ?_, h.off it List.mem_cons_self⟩
  have := (List.pairwise_cons.1 h.q.apart).1 x hx
  rcases this with h0 | h0
  · rw [h0] at h2; cases h2
  · exact h0 (h2.trans h1.symm)
theorem st_rnext_none {w W : World} {most room kd N : Int} {ga ck ci c c2 : Nat} {Ak Ai A A2 : Option Addr} {bl : List Int} {its : List (Value × List Int)} (h : St w W most room ga kd Ak bl ck N Ai ci A c its A2 c2 []) (m : Nat) (n : Int) :
    Calls Try.prog 30 #[.pointer (some ⟨w.heap.size + 1, 0, none⟩), .int .i64 n] (W.drewN m) fun e W1 => e = .returned (.tuple #[.string ⟨#[]⟩, .bool false]) ∧ St w W1 most room ga kd Ak bl ck N Ai ci A c its A2 c2 [] := by
  refine (rnext_none (h.r.drewN m) n).mono ?_
  rintro e W1 ⟨rfl, rfl⟩
  exact ⟨rfl, h.drewN m⟩
theorem st_rnext_long {w W : World} {most room kd N : Int} {ga ck ci c c2 : Nat} {Ak Ai A A2 : Option Addr} {bl : List Int} {its : List (Value × List Int)} {l0 : List Int} {rest : List (List Int)} (h : St w W most room ga kd Ak bl ck N Ai ci A c its A2 c2 (l0 :: rest)) (m : Nat) (n : Int) (hn : n < l0.length) :
    Calls Try.prog 30 #[.pointer (some ⟨w.heap.size + 1, 0, none⟩), .int .i64 n] (W.drewN m) fun e W1 => e = .returned (.tuple #[.string ⟨#[]⟩, .bool false]) ∧ St w W1 most room ga kd Ak bl ck N Ai ci A c its A2 c2 (l0 :: rest) := by
  refine (rnext_long (h.r.drewN m) n hn).mono ?_
  rintro e W1 ⟨rfl, rfl⟩
  exact ⟨rfl, h.drewN m⟩
theorem st_rnext_pop {w W : World} {most room kd N : Int} {ga ck ci c c2 : Nat} {Ak Ai A A2 : Option Addr} {bl : List Int} {its : List (Value × List Int)} {l0 : List Int} {rest : List (List Int)} (h : St w W most room ga kd Ak bl ck N Ai ci A c its A2 c2 (l0 :: rest)) (m : Nat) (n : Int) (hn : (l0.length : Int) ≤ n) :
    Calls Try.prog 30 #[.pointer (some ⟨w.heap.size + 1, 0, none⟩), .int .i64 n] (W.drewN m) fun e W1 => e = .returned (.tuple #[.string (strOfNums l0), .bool true]) ∧ (∃ A' c', St w W1 most room ga kd Ak bl ck N Ai ci A c its A' c' rest) ∧ ∀ v l, Kd.R (Kd.int .u8) 5 W w.heap.size (fun _ => True) v l → Kd.R (Kd.int .u8) 5 W1 w.heap.size (fun _ => True) v l := by
  have hd := h.drewN m
  refine (rnext_pop hd.r n hn).mono ?_
  rintro e W1 ⟨rfl, hl⟩
  have h2 := hd.rleft hl
  obtain ⟨_, _, _, _, hk⟩ := hl
  exact ⟨rfl, h2, fun v l hv => R_tr (Kd.R_drewN hv m) hk⟩
theorem conv_nil (W : World) : (convert 22 9 (.slice none 0 0)).run Try.prog W = .ok (.string ⟨#[]⟩) W :=
  Kd.C_string (P := Try.prog) (A := none) (n := 0) (c := 0) (xs := []) Try.underlying22 Try.underlying5 Try.underlying9 (Kd.C_nil _ W)
/-- A row of bytes is written, and nothing else. -/
theorem Que.keptB {w w' : World} {base g : Nat} {most room : Int} {A : Option Addr} {c : Nat} {its : List (Value × List Int)} {v : Value} {l : List Int} {b : Nat} (h : Que w base g most room A c its) (hv : Kd.R (Kd.int .u8) 5 w b (fun _ => True) v l) (off : Off v its) (hk : Kept w w' (fun k => some k = v.ownBlock)) : Que w' base g most room A c its := by
  have hty : ∀ k, some k = v.ownBlock → ∃ cells, w.heap[k]? = some (.cells cells 5 (0, 0)) := fun k he => Kd.R_typed hv k he.symm
  have hno : ∀ {k cells t}, t ≠ 5 → w.heap[k]? = some (.cells cells t (0, 0)) → ¬ some k = v.ownBlock := fun ht hc he => by
    obtain ⟨_, hc'⟩ := hty _ he
    exact ty_ne hc hc' ht rfl
  refine ⟨h.hg, (hk.2 g (blk_lt h.blk) (hno (by decide) h.blk)).trans h.blk, wr_move h.row (fun k hb => ?_), fun it hi => ?_, h.apart, h.r0, h.r1, h.few⟩
  · obtain ⟨_, cells, hc⟩ := wr_typed h.row k hb
    exact hk.2 k (blk_lt hc) (hno (by decide) hc)
  · have h0 := Kd.R_tight rfl (h.own it hi)
    exact Kd.R_mono (Kd.R_kept h0 hk (fun k h1 h2 => off it hi k h1.symm h2.symm)) (fun _ _ => trivial)
theorem RQue.keptB {w w' : World} {base g : Nat} {most room : Int} {A : Option Addr} {c : Nat} {ls : List (List Int)} {v : Value} {l : List Int} {b : Nat} (h : RQue w base g most room A c ls) (hv : Kd.R (Kd.int .u8) 5 w b (fun _ => True) v l) (hk : Kept w w' (fun k => some k = v.ownBlock)) : RQue w' base g most room A c ls := by
  have hty : ∀ k, some k = v.ownBlock → ∃ cells, w.heap[k]? = some (.cells cells 5 (0, 0)) := fun k he => Kd.R_typed hv k he.symm
  have hno : ∀ {k cells t}, t ≠ 5 → w.heap[k]? = some (.cells cells t (0, 0)) → ¬ some k = v.ownBlock := fun ht hc he => by
    obtain ⟨_, hc'⟩ := hty _ he
    exact ty_ne hc hc' ht rfl
  refine ⟨h.hg, (hk.2 g (blk_lt h.blk) (hno (by decide) h.blk)).trans h.blk, wr_move h.row (fun k hb => ?_), h.r0, h.r1, h.few⟩
  obtain ⟨_, cells, hc⟩ := wr_typed h.row k hb
  exact hk.2 k (blk_lt hc) (hno (by decide) hc)
theorem St.keptB {w W : World} {most room kd N : Int} {ga ck ci c c2 : Nat} {Ak Ai A A2 : Option Addr} {bl : List Int} {its : List (Value × List Int)} {ls : List (List Int)} {W1 : World} {v : Value} {l : List Int} {b : Nat} (h : St w W most room ga kd Ak bl ck N Ai ci A c its A2 c2 ls) (hv : Kd.R (Kd.int .u8) 5 W b (fun _ => True) v l) (off : Off v its) (ap : Apart v (.slice Ai bl.length ci)) (hb : Below w.heap.size W W1) (hk : Kept W W1 (fun k => some k = v.ownBlock)) : St w W1 most room ga kd Ak bl ck N Ai ci A c its A2 c2 ls := by
  have hty : ∀ k, some k = v.ownBlock → ∃ cells, W.heap[k]? = some (.cells cells 5 (0, 0)) := fun k he => Kd.R_typed hv k he.symm
  refine ⟨h.hb.trans hb, h.hga, (hk.2 ga (blk_lt h.blk) (fun he => ?_)).trans h.blk, ?_, h.q.keptB hv off hk, h.r.keptB hv hk, h.off⟩
  · obtain ⟨_, hc'⟩ := hty _ he
    exact ty_ne h.blk hc' (by decide) rfl
  · exact Kd.R_mono (Kd.R_kept (Kd.R_tight rfl h.inn) hk (fun k h1 h2 => ap k h2.symm h1.symm)) (fun _ _ => trivial)
theorem cut_snoc {w W : World} {most room kd N : Int} {ga ck ci c c2 : Nat} {Ak Ai A A2 : Option Addr} {bl : List Int} {its : List (Value × List Int)} {v : Value} (h : St w W most room ga kd Ak bl ck N Ai ci A c (its ++ [(v, bl)]) A2 c2 (its.map (·.2) ++ [bl])) :
    CutR w most room ga kd Ak bl ck N Ai ci W := ⟨_, _, its ++ [(v, bl)], _, _, by rw [List.map_append]; exact h⟩
/-- A row of bytes is counted up, byte by byte: what has been done. -/
def Bump (w W0 W : World) (v : Value) (n : Nat) : Prop := ∃ l : List Int, l.length = n ∧ Kd.R (Kd.int .u8) 5 W w.heap.size (fun _ => True) v l ∧ Kept W0 W (fun k => some k = v.ownBlock) ∧ Below w.heap.size W0 W
theorem Bump.step {w W0 W : World} {g n c : Nat} (h : Bump w W0 W (.slice (some ⟨g, 0, none⟩) n c) n) (hg : w.heap.size ≤ g) (j : Nat) (x : Int) : Bump w W0 (W.setCell ⟨g, j, none⟩ (.int .u8 x)) (.slice (some ⟨g, 0, none⟩) n c) n := by
  obtain ⟨l, hl, hr, hk, hb⟩ := h
  have hp := (Kd.R_putg (enc := Value.int .u8) hr (j : Int) x).1
  rw [Int.toNat_natCast] at hp
  exact ⟨l.set j x, by rw [List.length_set]; exact hl, hp, hk.setCell (.inl (by simp [Value.ownBlock])) _, hb.setCell hg _⟩
theorem Bump.cell {w W0 W : World} {g n c : Nat} (h : Bump w W0 W (.slice (some ⟨g, 0, none⟩) n c) n) (j : Nat) (hj : j < n) : ∃ x, W.cell? ⟨g, j, none⟩ = some (.int .u8 x) ∧ W.frozen? ⟨g, j, none⟩ = false := by
  obtain ⟨l, hl, hr, hk, hb⟩ := h
  obtain ⟨h1, h2⟩ := Kd.R_celln (enc := Value.int .u8) 0 hr (j : Int) (by omega) (by omega)
  rw [Int.toNat_natCast] at h1 h2
  exact ⟨_, h1, h2⟩
/-- The bytes that were handed on, counted up as far as j. -/
def Bump3 (w W0 W : World) (v : Value) (bl : List Int) (j : Nat) : Prop := ∃ l : List Int, l.length = bl.length ∧ (∀ i, j ≤ i → l[i]? = bl[i]?) ∧ Kd.R (Kd.int .u8) 5 W w.heap.size (fun _ => True) v l ∧ Kept W0 W (fun k => some k = v.ownBlock) ∧ Below w.heap.size W0 W
theorem Bump3.step {w W0 W : World} {g n c : Nat} {bl : List Int} {j : Nat} (h : Bump3 w W0 W (.slice (some ⟨g, 0, none⟩) n c) bl j) (hg : w.heap.size ≤ g) (x : Int) : Bump3 w W0 (W.setCell ⟨g, j, none⟩ (.int .u8 x)) (.slice (some ⟨g, 0, none⟩) n c) bl (j + 1) := by
  obtain ⟨l, hl, ha, hr, hk, hb⟩ := h
  have hp := (Kd.R_putg (enc := Value.int .u8) hr (j : Int) x).1
  rw [Int.toNat_natCast] at hp
  exact ⟨l.set j x, by rw [List.length_set]; exact hl, fun i hi => by rw [List.getElem?_set_ne (by omega)]; exact ha i (by omega), hp, hk.setCell (.inl (by simp [Value.ownBlock])) _, hb.setCell hg _⟩
theorem Bump3.drewN {w W0 W : World} {v : Value} {bl : List Int} {j : Nat} (h : Bump3 w W0 W v bl j) (m : Nat) : Bump3 w W0 (W.drewN m) v bl j := by
  obtain ⟨l, hl, ha, hr, hk, hb⟩ := h
  exact ⟨l, hl, ha, Kd.R_drewN hr m, hk.drewN m, pw_below_drewN hb m⟩
theorem Bump3.cell {w W0 W : World} {g n c : Nat} {bl : List Int} {j : Nat} {y : Int} (h : Bump3 w W0 W (.slice (some ⟨g, 0, none⟩) n c) bl j) (hn : n = bl.length) (hj : bl[j]? = some y) : W.cell? ⟨g, j, none⟩ = some (.int .u8 y) ∧ W.frozen? ⟨g, j, none⟩ = false := by
  obtain ⟨l, hl, ha, hr, hk, hb⟩ := h
  have hlt := (List.getElem?_eq_some_iff.1 hj).1
  obtain ⟨h1, h2⟩ := Kd.R_celln (enc := Value.int .u8) 0 hr (j : Int) (by omega) (by omega)
  rw [Int.toNat_natCast] at h1 h2
  have : rdOf (0 : Int) l (j : Int) = y := by
    unfold rdOf
    rw [Int.toNat_natCast, List.getD_eq_getElem?_getD, ha j (Nat.le_refl _), hj]; rfl
  rw [this] at h1
  exact ⟨h1, h2⟩
theorem R_head0 {W : World} {b n c : Nat} {ok : Nat → Prop} {A : Option Addr} {l : List Int} (h : Kd.R (Kd.int .u8) 5 W b ok (.slice A n c) l) (hn : 0 < n) : ∃ g, A = some ⟨g, 0, none⟩ ∧ b ≤ g := by
  obtain ⟨inner, ho⟩ := Kd.R_own h
  rcases ho.2 with ⟨he, _⟩ | ⟨g, cap, cur, he, hb, _⟩
  · injection he with _ h2 _
    omega
  · injection he with h1 _ _
    exact ⟨g, h1, hb⟩
theorem Bump3.act {w W0 W : World} {most room kd N : Int} {ga ck ci c c2 : Nat} {Ak Ai A A2 : Option Addr} {bl : List Int} {its : List (Value × List Int)} {ls : List (List Int)} {j : Nat} (h : Bump3 w W0 W (.slice Ai bl.length ci) bl j) (hs : St w W0 most room ga kd Ak bl ck N Ai ci A c its A2 c2 ls) : W.cell? ⟨ga, 1, none⟩ = some (.slice Ak bl.length ck) := by
  obtain ⟨l, hl, ha, hr, hk, hb⟩ := h
  have hblk : W.heap[ga]? = some (.cells #[.int .i64 kd, .slice Ak bl.length ck, .int .i64 N] 50 (0, 0)) := (hk.2 ga (blk_lt hs.blk) (fun he => by
    obtain ⟨_, hc'⟩ := Kd.R_typed hs.inn ga he.symm
    exact ty_ne hs.blk hc' (by decide) rfl)).trans hs.blk
  rw [cell_of_row W ga _ _ _ _ hblk]; rfl
theorem Bump3.queues {w W0 W : World} {most room kd N : Int} {ga ck ci c c2 : Nat} {Ak Ai A A2 : Option Addr} {bl : List Int} {its : List (Value × List Int)} {ls : List (List Int)} {j : Nat} (h : Bump3 w W0 W (.slice Ai bl.length ci) bl j) (hs : St w W0 most room ga kd Ak bl ck N Ai ci A c its A2 c2 ls) :
    Que W w.heap.size w.heap.size most room A c its ∧ RQue W w.heap.size (w.heap.size + 1) most room A2 c2 ls ∧ Below w.heap.size w W := by
  obtain ⟨l, hl, ha, hr, hk, hb⟩ := h
  exact ⟨hs.q.keptB hs.inn hs.off hk, hs.r.keptB hs.inn hk, hs.hb.trans hb⟩
end Go.Proofs.Ytpilpgdlgkndmaa.Dg
