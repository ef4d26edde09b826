/- InboxPlays: Read by both, rows that are written; no condition. -/
import Derived.Test.YtakmcbakogjeeaaIbPl3
import Derived.Test.YtakmcbakogjeeaaIbBk
set_option linter.unusedVariables false
set_option linter.unusedSimpArgs false
namespace Go.Proofs.Ytakmcbakogjeeaa.Ib
open Go Go.RowKit Go.Maps Go.Proofs.Ytakmcbakogjeeaa.Rm Go.Proofs.Ytakmcbakogjeeaa.Rw
open Go.Proofs.YtakmcbakogjeeaaW.PrintWords Go.Proofs.YtakmcbakogjeeaaW.PrintLast Go.Proofs.YtakmcbakogjeeaaW.PrintMore
variable {w W W' : World} {b g m n r ab : Nat} {h h2 h0 h' : Hd} {P P0 P' : List Pc} {kv : KV} {L : List By} {D : Nat → Prop} {cs : Array Value} {N : Int} {out : List Int} {dn : Bool}
/-- What a Read tells, and leaves. -/
structure RdOf (h : Hd) (P : List Pc) (N : Int) (out : List Int) (dn : Bool) (h' : Hd) (P' : List Pc) : Prop where
  o : (readP h.place N P).1 = out
  d : (h.known && ((readP h.place N P).2.1 == h.final)) = dn
  hh : { h with place := (readP h.place N P).2.1, limit := max h.limit ((readP h.place N P).2.1 + h.room) } = h'
  pp : (readP h.place N P).2.2 = P'
theorem RdOf.inn (x : RdOf h P N out dn h' P') (i : PlIn h P) : PlIn h' P' := by
  obtain ⟨a1, _⟩ := i.read N
  rw [x.hh, x.pp] at a1
  exact a1
theorem RdOf.len (x : RdOf h P N out dn h' P') (i : PlIn h P) : out.length ≤ 1048576 := by
  obtain ⟨_, a2, _⟩ := i.read N
  rw [x.o] at a2
  have h1 := readyB_le (flat P) h.place
  have h2 := i.few.2.2.1
  omega
theorem c_read2 (x : PlS w g m r ab cs D h P h2 L W) (i : PlIn h P) (N : Int) (hN0 : -9223372036854775808 ≤ N) (hN1 : N ≤ 9223372036854775807) :
    Calls Try.prog 20 #[.pointer (some ⟨g, 0, none⟩), .int .i64 N] W fun e w' => ∃ A c out dn h' P', e = .returned (.tuple #[.slice A out.length c, .bool dn]) ∧
      w'.ownsRow W.heap.size 5 1 (.slice A out.length c) out.length (out.map (Value.int .u8)) ∧
      PlS w g m r ab cs (fun k => D k ∧ k < W.heap.size) h' P' h2 L w' ∧ RdOf h P N out dn h' P' := by
  refine (c_read x i N hN0 hN1).mono ?_
  rintro e w' ⟨A, c, rfl, ho, hs, _⟩
  exact ⟨A, c, _, _, _, _, rfl, ho, hs, ⟨rfl, rfl, rfl, rfl⟩⟩
theorem c_rread2 (x : PlS w g m r ab cs D h0 P0 h (flat P) W) (i : PlIn h P) (y : RdOf h P N out dn h' P') :
    Calls Try.prog 28 #[.pointer (some ⟨r, 0, none⟩), .int .i64 N] W fun e w' => ∃ A c, e = .returned (.tuple #[.slice A out.length c, .bool dn]) ∧
      w'.ownsRow W.heap.size 5 1 (.slice A out.length c) out.length (out.map (Value.int .u8)) ∧
      PlS w g m r ab cs D h0 P0 h' (flat P') w' ∧ RowsStay W w' := by
  obtain ⟨a1, a2, a3, a4, a5⟩ := i.read N
  obtain ⟨b1, b2, b3, b4⟩ := y
  rw [b1] at a2 a3 a4 a5
  refine (c_rread x i N out.length a2).mono ?_
  rintro e w' ⟨A, c, rfl, ho, hs, hst⟩
  refine ⟨A, c, ?_, ?_, ?_, hst⟩
  · rw [← b2, a3]
  · have : ((flat P).take out.length).map (fun z => Value.int .u8 z.2) = out.map (Value.int .u8) := by
      conv => rhs; rw [← a5, List.map_map]
      rfl
    rw [this] at ho
    exact ho
  · rw [← b3, ← b4, a4, a3]
    exact hs
/-- A cell of a row of one's own is set. -/
theorem own_cellset {base n gx c j : Nat} {us : List Value} (ho : W.ownsRow base 5 1 (.slice (some ⟨gx, 0, none⟩) n c) n us) (hj : j < n) (u : Value) : (W.setCell ⟨gx, j, none⟩ u).ownsRow base 5 1 (.slice (some ⟨gx, 0, none⟩) n c) n (us.set j u) := by
  obtain ⟨h1, h2⟩ := ho
  refine ⟨by rw [List.length_set]; exact h1, ?_⟩
  rcases h2 with ⟨hv, h0⟩ | ⟨g', c', cur, hv, hb, hg, hnc, hcm, hcs, ht⟩
  · omega
  · injection hv with e1 _ e3
    injection e1 with e1
    injection e1 with e1
    subst e1; subst e3
    refine .inr ⟨gx, c, cur.setIfInBounds j u, rfl, hb, blk_set hg j u, hnc, hcm, by rw [Array.size_setIfInBounds]; exact hcs, ?_⟩
    rw [Nat.mul_one] at ht ⊢
    rw [Array.toList_setIfInBounds, List.take_set, ht]
/-- A row that is written, under way. -/
def MutR (w : World) (g m r ab : Nat) (cs : Array Value) (D : Nat → Prop) (h : Hd) (P : List Pc) (base : Nat) (xv : Value) (n : Nat) (iv : Value) (wr : World) : Prop :=
  ∃ (j : Nat) (us : List Value), j ≤ n ∧ iv = .int .i64 j ∧ PlS w g m r ab cs D h P h (flat P) wr ∧ wr.ownsRow base 5 1 xv n us ∧ ∀ (i : Nat) (u : Value), us[i]? = some u → ∃ z : Int, u = Value.int .u8 z
theorem mut_start {xs : List Int} {base : Nat} {xv : Value} (hs : PlS w g m r ab cs D h P h (flat P) W) (ho : W.ownsRow base 5 1 xv n (xs.map (Value.int .u8))) : MutR w g m r ab cs D h P base xv n (.int .i64 0) W :=
  ⟨0, _, Nat.zero_le _, rfl, hs, ho, fun i u hu => by
    rw [List.getElem?_map] at hu
    cases hx : xs[i]? with
    | none => rw [hx] at hu; cases hu
    | some z => rw [hx] at hu; injection hu with hu; exact ⟨z, hu.symm⟩⟩
theorem mut_at {base : Nat} {xv : Value} {us : List Value} {j : Nat} (ho : W.ownsRow base 5 1 xv n us) (hu : ∀ (i : Nat) (u : Value), us[i]? = some u → ∃ z : Int, u = Value.int .u8 z) (hj : j < n) :
    ∃ gx c z, xv = .slice (some ⟨gx, 0, none⟩) n c ∧ n ≤ c ∧ base ≤ gx ∧ (∃ cs, W.heap[gx]? = some (.cells cs 5 (0, 0))) ∧ W.cell? ⟨gx, j, none⟩ = some (.int .u8 z) := by
  have hl : j < us.length := by have := ho.1; omega
  obtain ⟨u, hu1⟩ : ∃ u, us[j]? = some u := ⟨_, List.getElem?_eq_getElem hl⟩
  obtain ⟨z, rfl⟩ := hu j u hu1
  obtain ⟨gs, c, hv, h1, _, h3, h4, h5⟩ := own_at ho hu1
  exact ⟨gs, c, z, hv, h4, h1, h3, h5⟩
theorem mut_step {base gx c j : Nat} {us : List Value} {z : Int} (hs : PlS w g m r ab cs D h P h (flat P) W) (ho : W.ownsRow base 5 1 (.slice (some ⟨gx, 0, none⟩) n c) n us) (hu : ∀ (i : Nat) (u : Value), us[i]? = some u → ∃ z : Int, u = Value.int .u8 z) (hj : j < n) (hd : ∀ k, D k → k ≠ gx) (hb : w.heap.size ≤ base) :
    MutR w g m r ab cs D h P base (.slice (some ⟨gx, 0, none⟩) n c) n (.int .i64 ((j + 1 : Nat) : Int)) (W.setCell ⟨gx, j, none⟩ (.int .u8 z)) := by
  obtain ⟨hbg, c1, hc⟩ := own_typed ho gx (by simp [Value.ownBlock])
  refine ⟨j + 1, us.set j (.int .u8 z), by omega, rfl, hs.wrote hc hd (by omega) j _, own_cellset ho hj _, fun i u hi => ?_⟩
  by_cases hij : j = i
  · subst hij
    rw [List.getElem?_set] at hi
    split at hi
    · split at hi
      · injection hi with hi; exact ⟨z, hi.symm⟩
      · cases hi
    · exact hu _ u hi
  · rw [List.getElem?_set_ne hij] at hi
    exact hu i u hi
theorem RowsStay.ap (x : RowsStay W W') {base n : Nat} {v : Value} {us : List Value} (h : W.ownsRow base 5 1 v n us) : W'.ownsRow base 5 1 v n us := x base v n us h
theorem own_pos {base n : Nat} {v : Value} {us : List Value} (ho : W.ownsRow base 5 1 v n us) (hn : 0 < n) : ∃ gi c, v = .slice (some ⟨gi, 0, none⟩) n c ∧ base ≤ gi ∧ n ≤ c := by
  rcases ho.2 with ⟨_, h0⟩ | ⟨g', c, cur, hv, hb, hg, hnc, _⟩
  · omega
  · exact ⟨g', c, hv, hb, hnc⟩
theorem src_u8 {a : Addr} {xs : List Int} (hc : ∀ (i : Nat) (u : Int), xs[i]? = some u → W.cell? (a.add i) = some (.int .u8 u)) : ∀ (j : Nat) (u : Value), (xs.map (Value.int .u8))[j]? = some u → W.cell? (a.add j) = some u := fun j u hu => by
  rw [List.getElem?_map] at hu
  cases hx : xs[j]? with
  | none => rw [hx] at hu; cases hu
  | some z => rw [hx] at hu; injection hu with hu; subst hu; exact hc j z hx
theorem str_app (a b : List Int) : strOfNums (a ++ b) = strOfNums a ++ strOfNums b := by
  apply ByteArray.ext
  simp [strOfNums]
theorem str_size (a : List Int) : (strOfNums a).size = a.length := by simp [strOfNums, ByteArray.size]
theorem str_z (a : List Int) : strOfNums a ++ { data := #[90] } = strOfNums (a ++ [90]) := by
  rw [str_app]
  rfl
end Go.Proofs.Ytakmcbakogjeeaa.Ib
