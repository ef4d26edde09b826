/- The document's box (layer 6): Read; no condition. -/
import Derived.Test.YtakmcbakogjeeaaIr3
import Derived.Maps.AppendAt
set_option linter.unusedVariables false
set_option linter.unusedSimpArgs false
namespace Go.Proofs.Ytakmcbakogjeeaa.Ib
open Go Go.RowKit Go.Maps Go.Proofs.Ytakmcbakogjeeaa.Rm Go.Proofs.Ytakmcbakogjeeaa.Rw
open Go.Proofs.YtakmcbakogjeeaaW.PrintWords Go.Proofs.YtakmcbakogjeeaaW.PrintLast Go.Proofs.YtakmcbakogjeeaaW.PrintMore
variable {W W' : World} {b r : Nat} {h : Hd} {A : Option Addr} {c : Nat} {L : List By}
theorem ready_lim {M : Int} : ∀ (L : List By) (pl : Int), (∀ z ∈ L, z.1 < M) → pl ≤ M → pl + readyB pl L ≤ M
  | [], pl, _, h => by simp [readyB]; exact h
  | y :: r, pl, hz, h => by
    rw [readyB]
    split
    · next he =>
      have h1 := hz y List.mem_cons_self
      have := ready_lim r (pl + 1) (fun z hm => hz z (List.mem_cons_of_mem _ hm)) (by omega)
      push_cast
      omega
    · simp; exact h
/-- The first byte is gone. -/
theorem RBox.popped {z : By} {rest : List By} {A2 : Option Addr} (x : RBox W b r h A c (z :: rest)) (hA2 : (if c = 1 then A else A.map (·.add (1 * 2))) = A2) :
    RBox (W.setCell ⟨r, 6, none⟩ (.slice A2 rest.length (c - 1))) b r h A2 (c - 1) rest ∧ ∀ k, (Value.slice A2 rest.length (c - 1)).ownBlock = some k → (Value.slice A (rest.length + 1) c).ownBlock = some k := by
  have hrow := wr_cut (lo := 1) (hi := rest.length + 1) (cp := c) x.row (by omega) (by simp) (by have := (wr_room x.row).2.1; simpa using this) (Nat.le_refl _)
  have hd : List.take ((rest.length + 1 - 1) * 2) (List.drop (1 * 2) (bcells (z :: rest))) = bcells rest := by
    rw [bc_drop, Nat.add_sub_cancel, bc_take]
    simp
  rw [hd, Nat.add_sub_cancel, hA2] at hrow
  have hob : ∀ k, (Value.slice A2 rest.length (c - 1)).ownBlock = some k → (Value.slice A (rest.length + 1) c).ownBlock = some k := fun k hk => by
    rw [← hA2] at hk
    cases A with
    | none => simp [Value.ownBlock] at hk
    | some a =>
      have : a.block = k := by
        split at hk
        · simpa [Value.ownBlock] using hk
        · simpa [Value.ownBlock, Addr.add] using hk
      simp [Value.ownBlock, this]
  refine ⟨⟨x.hg, blk_set x.blk 6 _, wr_move hrow (fun k hk => Below.heap_setCell W _ _ k ?_)⟩, hob⟩
  obtain ⟨_, cs, hc⟩ := wr_typed hrow k hk
  rintro rfl
  rw [x.blk] at hc
  injection hc with hc
  injection hc with _ hc
  exact absurd hc (by decide)
/-- A round of Read. -/
def RRead (W : World) (b r : Nat) (h : Hd) (L : List By) (K : Nat) (ov iv : Value) (wr : World) : Prop :=
  ∃ (i : Nat) (A' : Option Addr) (c' : Nat) (Ao : Option Addr) (co : Nat), i ≤ K ∧ iv = .int .i64 i ∧ ov = .slice Ao i co ∧ RBox wr b r { h with place := h.place + i } A' c' (L.drop i) ∧ (∀ k, (Value.slice A' (L.drop i).length c').ownBlock = some k → k < W.heap.size) ∧
    wr.ownsRow W.heap.size 5 1 (.slice Ao i co) i ((L.take i).map (fun z => Value.int .u8 z.2)) ∧ LfR W wr b r
theorem take_more {i : Nat} {z : By} (hz : L[i]? = some z) : (L.take (i + 1)).map (fun z => Value.int .u8 z.2) = (L.take i).map (fun z => Value.int .u8 z.2) ++ [.int .u8 z.2] := by
  rw [List.take_add_one, hz]
  simp
theorem RBox.grown {ob : Option Nat} (x : RBox W b r h A c L) (hg : W.grownBy W' ob) (h1 : some r ≠ ob) (h2 : ∀ k, (Value.slice A L.length c).ownBlock = some k → some k ≠ ob) : RBox W' b r h A c L :=
  x.move (hg.block r x.lt h1) (fun k hk => hg.block k (wr_lt x.row k hk) (h2 k hk))
theorem LfR.grown {W2 : World} {ob : Option Nat} (x : LfR W W' b r) (hg : W'.grownBy W2 ob) (ho : ∀ k, ob = some k → W.heap.size ≤ k) (hb : b ≤ W.heap.size) : LfR W W2 b r :=
  ⟨x.bel.grown hg (by have := x.bel.size; omega) (fun k hk => by have := ho k hk; omega), fun k hk hn => (hg.block k (Nat.lt_of_lt_of_le hk x.bel.size) (fun e => by have := ho k e.symm; omega)).trans (x.kept k hk hn)⟩
set_option maxRecDepth 100000 in
set_option maxHeartbeats 12800000 in
theorem rRead_s (x : RBox W b r h A c L) (hl : L.length ≤ 1048576) (hlim : ∀ z ∈ L, z.1 < 4611686018427387903) (hp0 : 0 ≤ h.place) (hp1 : h.place ≤ 4611686018427387903) (hr0 : 0 ≤ h.room) (hr1 : h.room ≤ 1048576) (hbw : b ≤ W.heap.size) (N : Int) (K : Nat) (hK : (K : Int) = max 0 (min N (readyB h.place L))) :
    Calls Try.prog 28 #[.pointer (some ⟨r, 0, none⟩), .int .i64 N] W fun e w' => ∃ Ao co A' c', e = .returned (.tuple #[.slice Ao K co, .bool (h.known && (h.place + K == h.final))]) ∧
      w'.ownsRow W.heap.size 5 1 (.slice Ao K co) K ((L.take K).map (fun z => Value.int .u8 z.2)) ∧ RBox w' b r { h with place := h.place + K, limit := max h.limit (h.place + K + h.room) } A' c' (L.drop K) ∧ (∀ k, (Value.slice A' (L.drop K).length c').ownBlock = some k → k < W.heap.size) ∧ LfR W w' b r := by
  have hrl := ready_lim L h.place hlim hp1
  have hrn := readyB_le L h.place
  obtain ⟨R, hR⟩ : ∃ R, readyB h.place L = R := ⟨_, rfl⟩
  have CR := Aside0.mk (rready_s x hp0 hp1 hl)
  rw [hR] at hrl hrn hK CR
  have HR := Aside0.mk hR
  have X := Aside0.mk x
  have hgl := x.lt
  have OB0 : Aside0 (∀ k, (Value.slice A L.length c).ownBlock = some k → k < W.heap.size) := ⟨fun k hk => wr_lt x.row k hk⟩
  clear x hR hlim
  go_enter Try.func28, Try.ntmps28
  go_upto_region 2 with (go_at_call 31; (with_reducible refine CR.out.mono ?_); rintro e w1 ⟨rfl, nd, rfl⟩)
  have X1 := Aside0.mk (X.out.drewN nd)
  have L1 := Aside0.mk ((LfR.refl W b r).drewN nd)
  obtain ⟨w1, hw1⟩ : ∃ w1, W.drewN nd = w1 := ⟨_, rfl⟩
  rw [hw1] at X1 L1 ⊢
  clear hw1 CR X
  have hKR : K ≤ R := by omega
  have hKN : (N < (R : Int) → N ≤ (K : Int) ∧ ((K : Int) ≤ N ∨ K ≤ 0)) ∧ ((R : Int) ≤ N → R ≤ K) := by omega
  clear hK
  by_cases hNR : N < (R : Int)
  · have hKM := hKN.1 hNR
    clear hKN
    go_upto_region 5 with fail
    go_wp2_with fail
    go_loopw [7, 8] (fun ov iv wr => RRead W b r h L K ov iv wr) (fun _ iv _ => K - (intOf iv).toNat)
    case atStart => exact ⟨0, A, c, none, 0, Nat.zero_le _, rfl, rfl, by simpa using X1.out, by simpa using OB0.out, by simpa using World.ownsRow_nil _ _ _ _, L1.out⟩
    case round =>
      obtain ⟨i, A', c', Ao, co, hi, rfl, rfl, hx, hob, hown, hlf⟩ := hrel
      have HX := Aside0.mk hx
      have HOB := Aside0.mk hob
      have HO := Aside0.mk hown
      have HL := Aside0.mk hlf
      have OWB : Aside0 (∀ k, (Value.slice Ao i co).ownBlock = some k → W.heap.size ≤ k) := ⟨fun k hk => (own_typed HO.out k hk).1⟩
      obtain ⟨c0, c1, c2, c3, c4, c5, c6⟩ := HX.out.cl
      simp only at c0 c1 c2 c3 c4 c5
      clear hx hob hown hlf
      by_cases hiq : (i : Int) < N
      · have hiR : i < R := by omega
        obtain ⟨z, hz⟩ : ∃ z, L[i]? = some z := ⟨_, List.getElem?_eq_getElem (by omega)⟩
        have hd := drop_at hz
        have HD := Aside0.mk hd
        obtain ⟨rest, hrest⟩ : ∃ rest, L.drop (i + 1) = rest := ⟨_, rfl⟩
        rw [hrest] at hd
        have HX2 : Aside0 (RBox wr b r { h with place := h.place + i } A' c' (z :: rest)) := ⟨by rw [← hd]; exact HX.out⟩
        have HRE := Aside0.mk hrest
        have HTK := Aside0.mk (take_more hz)
        have HOB2 : Aside0 (∀ k, (Value.slice A' (z :: rest).length c').ownBlock = some k → k < W.heap.size) := ⟨by rw [← hd]; exact HOB.out⟩
        rw [hd] at c6
        obtain ⟨g, off, rfl, hc, e1, e2⟩ := HX2.out.el (k := 0) (z := z) rfl
        rw [Nat.zero_mul, Nat.add_zero] at e1 e2
        simp only [List.length_cons] at c6 hc
        obtain ⟨i0, hi0, hz0, hz1, hz2⟩ := info_parts info8
        obtain ⟨i1, hi1, _, hy1, _⟩ := info_parts infoB
        have hcut := run_cut1 (P := Try.prog) 54 157 .i64 Try.underlying54 hi1 2 hy1 (some ⟨g, off, none⟩) (rest.length + 1) c' 1 (by omega) (by omega) hc
        rw [show ((1 : Int)).toNat = 1 from rfl, Nat.add_sub_cancel] at hcut
        obtain ⟨A2, hA2⟩ : ∃ A2, (if c' = 1 then (some ⟨g, off, none⟩ : Option Addr) else (some ⟨g, off, none⟩ : Option Addr).map (·.add (1 * 2))) = A2 := ⟨_, rfl⟩
        rw [hA2] at hcut
        have HA2 := Aside0.mk hA2
        clear hz hd hrest HX HOB hi1 hA2
        go_upto_region 9 with (at_builtin; refine wpList_append_own_at _ rfl _ _ 22 rfl W.heap.size 5 i0 _ 1 1 Try.underlying22 hi0 hz0 hz1 hz2 rfl (by decide) (.slice Ao i co) i ((L.take i).map (fun z => Value.int .u8 z.2)) rfl (HO.out.alloc _) ⟨wr.heap.size, 0, none⟩ 1 1 [.int .u8 z.2] rfl rfl (cell_one_new _ _ _) (fun u hu => by rw [List.mem_singleton.1 hu]; rfl) (by unfold maxLen; omega) (by omega) (by have := HL.out.bel.size; simp; omega) ?_; intro v3 w3 h1 h2 _ _; have HO3 := Aside0.mk h1; have hg3 : wr.grownBy w3 (Value.slice Ao i co).ownBlock := (World.grownBy_alloc wr _ _).trans h2; have HX3 := Aside0.mk (HX2.out.grown hg3 (fun e => by have := OWB.out r e.symm; omega) (fun k hk e => by have := OWB.out k e.symm; have := HOB2.out k hk; omega)); have HL3 := Aside0.mk (HL.out.grown hg3 OWB.out hbw); clear h1 h2 hg3 c0 c1 c2 c3 c4 c5 c6 e1 e2)
        obtain ⟨Ao3, co3, hv3, _⟩ := own_form HO3.out
        subst hv3
        obtain ⟨c0, c1, c2, c3, c4, c5, c6⟩ := HX3.out.cl
        have f6 := HX3.out.free 6
        simp only [List.length_cons] at c0 c1 c2 c3 c4 c5 c6
        go_upto_region 10 with fail
        have p1 := HX3.out.popped HA2.out
        have P1 := Aside0.mk p1.1
        have P2 := Aside0.mk p1.2
        have HL4 := Aside0.mk (HL3.out.set HX3.out.hg 6 (.slice A2 rest.length (c' - 1)))
        have HO4 := Aside0.mk (own_setg HO3.out hgl 6 (.slice A2 rest.length (c' - 1)))
        clear p1 c0 c1 c2 c3 c4 c5 c6 f6
        obtain ⟨w4, hw4⟩ : ∃ w4, w3.setCell ⟨r, 6, none⟩ (.slice A2 rest.length (c' - 1)) = w4 := ⟨_, rfl⟩
        rw [hw4] at P1 HL4 HO4 ⊢
        clear hw4 HX3 HL3 HO3
        obtain ⟨c0, c1, c2, c3, c4, c5, c6⟩ := P1.out.cl
        have f1 := P1.out.free 1
        simp only at c0 c1 c2 c3 c4 c5
        have hw : IntKind.i64.wrap (h.place + (i : Int) + 1) = h.place + i + 1 := by rw [IntKind.wrap_i64]; omega
        go_wp2_with fail
        refine ⟨⟨i + 1, A2, c' - 1, Ao3, co3, by omega, by simp, rfl, ?_, ?_, ?_, HL4.out.set P1.out.hg 1 _⟩, by simp [intOf]; omega⟩
        · have := P1.out.put 1 (.int .i64 (h.place + i + 1)) { h with place := h.place + ((i + 1 : Nat) : Int) } (by simp only; rw [show h.place + ((i + 1 : Nat) : Int) = h.place + i + 1 by push_cast; omega]; rfl)
          rw [HRE.out]
          exact this
        · rw [HRE.out]
          exact fun k hk => HOB2.out k (P2.out k hk)
        · rw [HTK.out]
          exact own_setg HO4.out hgl 1 _
      · have hiK : i = K := by omega
        subst hiK
        have hiq' : ¬ (i : Int) < N := hiq
        have CRS := Aside0.mk (raise_s HX.out (by simp only; omega) (by simp only; omega) hr0 hr1)
        simp only at CRS
        have HKP : Aside0 (∀ k, (Value.slice A' (L.drop i).length c').ownBlock = some k → k < W.heap.size) := HOB
        go_upto_region 12 with (go_at_call 80; (with_reducible refine CRS.out.mono ?_); rintro e w5 ⟨rfl, hx5, hl5⟩; have HX5 := Aside0.mk hx5; have HL5 := Aside0.mk hl5; clear hx5 hl5)
        have HO5 : Aside0 (w5.ownsRow W.heap.size 5 1 (.slice Ao i co) i ((L.take i).map (fun z => Value.int .u8 z.2))) := ⟨own_move HO.out (fun k hk => HL5.out.kept k (by obtain ⟨_, cs, hc⟩ := own_typed HO.out k hk; exact (Array.getElem?_eq_some_iff.1 hc).1) (by have := OWB.out k hk; omega))⟩
        clear c0 c1 c2 c3 c4 c5 c6
        obtain ⟨c0, c1, c2, c3, c4, c5, c6⟩ := HX5.out.cl
        simp only at c0 c1 c2 c3 c4 c5
        cases hkn : h.known with
        | false =>
          rw [hkn] at c5
          have HKN := Aside0.mk hkn
          clear hkn
          go_quiet (fail)
          go_wp2_with fail
          go_ret2
          exact ⟨Ao, co, A', c', by rw [HKN.out]; rfl, pw_own_drewN HO5.out nq, HX5.out.drewN nq, HKP.out, (HL.out.then HL5.out).drewN nq⟩
        | true =>
          rw [hkn] at c5
          have HKN := Aside0.mk hkn
          clear hkn
          go_quiet (fail)
          go_wp2_with fail
          go_ret2
          exact ⟨Ao, co, A', c', by rw [HKN.out]; rfl, pw_own_drewN HO5.out nq, HX5.out.drewN nq, HKP.out, (HL.out.then HL5.out).drewN nq⟩
  · have hNR' : (R : Int) ≤ N := by omega
    have hKM := hKN.2 hNR'
    clear hNR hKN
    go_upto_region 5 with fail
    go_wp2_with fail
    go_loopw [7, 8] (fun ov iv wr => RRead W b r h L K ov iv wr) (fun _ iv _ => K - (intOf iv).toNat)
    case atStart => exact ⟨0, A, c, none, 0, Nat.zero_le _, rfl, rfl, by simpa using X1.out, by simpa using OB0.out, by simpa using World.ownsRow_nil _ _ _ _, L1.out⟩
    case round =>
      obtain ⟨i, A', c', Ao, co, hi, rfl, rfl, hx, hob, hown, hlf⟩ := hrel
      have HX := Aside0.mk hx
      have HOB := Aside0.mk hob
      have HO := Aside0.mk hown
      have HL := Aside0.mk hlf
      have OWB : Aside0 (∀ k, (Value.slice Ao i co).ownBlock = some k → W.heap.size ≤ k) := ⟨fun k hk => (own_typed HO.out k hk).1⟩
      obtain ⟨c0, c1, c2, c3, c4, c5, c6⟩ := HX.out.cl
      simp only at c0 c1 c2 c3 c4 c5
      clear hx hob hown hlf
      by_cases hiq : (i : Int) < R
      · have hiR : i < R := by omega
        obtain ⟨z, hz⟩ : ∃ z, L[i]? = some z := ⟨_, List.getElem?_eq_getElem (by omega)⟩
        have hd := drop_at hz
        have HD := Aside0.mk hd
        obtain ⟨rest, hrest⟩ : ∃ rest, L.drop (i + 1) = rest := ⟨_, rfl⟩
        rw [hrest] at hd
        have HX2 : Aside0 (RBox wr b r { h with place := h.place + i } A' c' (z :: rest)) := ⟨by rw [← hd]; exact HX.out⟩
        have HRE := Aside0.mk hrest
        have HTK := Aside0.mk (take_more hz)
        have HOB2 : Aside0 (∀ k, (Value.slice A' (z :: rest).length c').ownBlock = some k → k < W.heap.size) := ⟨by rw [← hd]; exact HOB.out⟩
        rw [hd] at c6
        obtain ⟨g, off, rfl, hc, e1, e2⟩ := HX2.out.el (k := 0) (z := z) rfl
        rw [Nat.zero_mul, Nat.add_zero] at e1 e2
        simp only [List.length_cons] at c6 hc
        obtain ⟨i0, hi0, hz0, hz1, hz2⟩ := info_parts info8
        obtain ⟨i1, hi1, _, hy1, _⟩ := info_parts infoB
        have hcut := run_cut1 (P := Try.prog) 54 157 .i64 Try.underlying54 hi1 2 hy1 (some ⟨g, off, none⟩) (rest.length + 1) c' 1 (by omega) (by omega) hc
        rw [show ((1 : Int)).toNat = 1 from rfl, Nat.add_sub_cancel] at hcut
        obtain ⟨A2, hA2⟩ : ∃ A2, (if c' = 1 then (some ⟨g, off, none⟩ : Option Addr) else (some ⟨g, off, none⟩ : Option Addr).map (·.add (1 * 2))) = A2 := ⟨_, rfl⟩
        rw [hA2] at hcut
        have HA2 := Aside0.mk hA2
        clear hz hd hrest HX HOB hi1 hA2
        go_upto_region 9 with (at_builtin; refine wpList_append_own_at _ rfl _ _ 22 rfl W.heap.size 5 i0 _ 1 1 Try.underlying22 hi0 hz0 hz1 hz2 rfl (by decide) (.slice Ao i co) i ((L.take i).map (fun z => Value.int .u8 z.2)) rfl (HO.out.alloc _) ⟨wr.heap.size, 0, none⟩ 1 1 [.int .u8 z.2] rfl rfl (cell_one_new _ _ _) (fun u hu => by rw [List.mem_singleton.1 hu]; rfl) (by unfold maxLen; omega) (by omega) (by have := HL.out.bel.size; simp; omega) ?_; intro v3 w3 h1 h2 _ _; have HO3 := Aside0.mk h1; have hg3 : wr.grownBy w3 (Value.slice Ao i co).ownBlock := (World.grownBy_alloc wr _ _).trans h2; have HX3 := Aside0.mk (HX2.out.grown hg3 (fun e => by have := OWB.out r e.symm; omega) (fun k hk e => by have := OWB.out k e.symm; have := HOB2.out k hk; omega)); have HL3 := Aside0.mk (HL.out.grown hg3 OWB.out hbw); clear h1 h2 hg3 c0 c1 c2 c3 c4 c5 c6 e1 e2)
        obtain ⟨Ao3, co3, hv3, _⟩ := own_form HO3.out
        subst hv3
        obtain ⟨c0, c1, c2, c3, c4, c5, c6⟩ := HX3.out.cl
        have f6 := HX3.out.free 6
        simp only [List.length_cons] at c0 c1 c2 c3 c4 c5 c6
        go_upto_region 10 with fail
        have p1 := HX3.out.popped HA2.out
        have P1 := Aside0.mk p1.1
        have P2 := Aside0.mk p1.2
        have HL4 := Aside0.mk (HL3.out.set HX3.out.hg 6 (.slice A2 rest.length (c' - 1)))
        have HO4 := Aside0.mk (own_setg HO3.out hgl 6 (.slice A2 rest.length (c' - 1)))
        clear p1 c0 c1 c2 c3 c4 c5 c6 f6
        obtain ⟨w4, hw4⟩ : ∃ w4, w3.setCell ⟨r, 6, none⟩ (.slice A2 rest.length (c' - 1)) = w4 := ⟨_, rfl⟩
        rw [hw4] at P1 HL4 HO4 ⊢
        clear hw4 HX3 HL3 HO3
        obtain ⟨c0, c1, c2, c3, c4, c5, c6⟩ := P1.out.cl
        have f1 := P1.out.free 1
        simp only at c0 c1 c2 c3 c4 c5
        have hw : IntKind.i64.wrap (h.place + (i : Int) + 1) = h.place + i + 1 := by rw [IntKind.wrap_i64]; omega
        go_wp2_with fail
        refine ⟨⟨i + 1, A2, c' - 1, Ao3, co3, by omega, by simp, rfl, ?_, ?_, ?_, HL4.out.set P1.out.hg 1 _⟩, by simp [intOf]; omega⟩
        · have := P1.out.put 1 (.int .i64 (h.place + i + 1)) { h with place := h.place + ((i + 1 : Nat) : Int) } (by simp only; rw [show h.place + ((i + 1 : Nat) : Int) = h.place + i + 1 by push_cast; omega]; rfl)
          rw [HRE.out]
          exact this
        · rw [HRE.out]
          exact fun k hk => HOB2.out k (P2.out k hk)
        · rw [HTK.out]
          exact own_setg HO4.out hgl 1 _
      · have hiK : i = K := by omega
        subst hiK
        have hiq' : ¬ (i : Int) < R := hiq
        have CRS := Aside0.mk (raise_s HX.out (by simp only; omega) (by simp only; omega) hr0 hr1)
        simp only at CRS
        have HKP : Aside0 (∀ k, (Value.slice A' (L.drop i).length c').ownBlock = some k → k < W.heap.size) := HOB
        go_upto_region 12 with (go_at_call 80; (with_reducible refine CRS.out.mono ?_); rintro e w5 ⟨rfl, hx5, hl5⟩; have HX5 := Aside0.mk hx5; have HL5 := Aside0.mk hl5; clear hx5 hl5)
        have HO5 : Aside0 (w5.ownsRow W.heap.size 5 1 (.slice Ao i co) i ((L.take i).map (fun z => Value.int .u8 z.2))) := ⟨own_move HO.out (fun k hk => HL5.out.kept k (by obtain ⟨_, cs, hc⟩ := own_typed HO.out k hk; exact (Array.getElem?_eq_some_iff.1 hc).1) (by have := OWB.out k hk; omega))⟩
        clear c0 c1 c2 c3 c4 c5 c6
        obtain ⟨c0, c1, c2, c3, c4, c5, c6⟩ := HX5.out.cl
        simp only at c0 c1 c2 c3 c4 c5
        cases hkn : h.known with
        | false =>
          rw [hkn] at c5
          have HKN := Aside0.mk hkn
          clear hkn
          go_quiet (fail)
          go_wp2_with fail
          go_ret2
          exact ⟨Ao, co, A', c', by rw [HKN.out]; rfl, pw_own_drewN HO5.out nq, HX5.out.drewN nq, HKP.out, (HL.out.then HL5.out).drewN nq⟩
        | true =>
          rw [hkn] at c5
          have HKN := Aside0.mk hkn
          clear hkn
          go_quiet (fail)
          go_wp2_with fail
          go_ret2
          exact ⟨Ao, co, A', c', by rw [HKN.out]; rfl, pw_own_drewN HO5.out nq, HX5.out.drewN nq, HKP.out, (HL.out.then HL5.out).drewN nq⟩
end Go.Proofs.Ytakmcbakogjeeaa.Ib
