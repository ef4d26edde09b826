/- InboxBack: what holds at each step; no condition. -/
import Derived.Test.YtakmcbakogjeeaaIb5j
import Derived.Test.YtakmcbakogjeeaaIb10
import Derived.Test.YtakmcbakogjeeaaIbPure3
import Derived.Maps.AppendAt
import Derived.Laws.AppendOwnNone
set_option linter.unusedVariables false
set_option linter.unusedSimpArgs false
namespace Go.Proofs.Ytakmcbakogjeeaa.Ib
open Go Go.RowKit Go.Maps Go.Proofs.Ytakmcbakogjeeaa.Rm
open Go.Proofs.YtakmcbakogjeeaaW.PrintWords Go.Proofs.YtakmcbakogjeeaaW.PrintLast Go.Proofs.YtakmcbakogjeeaaW.PrintMore
variable {w W W' : World} {g m : Nat} {h : Hd} {P : List Pc} {gv : Value} {got text : List Int}
/-- A row of bytes of the law's own, as what is read. -/
theorem C_of_own {b c : Nat} {A : Option Addr} {xs : List Int} {n : Nat} (ho : W.ownsRow b 5 1 (.slice A n c) n (xs.map (Value.int .u8))) (hx : xs.length = n) : Kd.C (Kd.int .u8) W A n xs := by
  rcases ho.2 with ⟨hv, h0⟩ | ⟨g', c', cur, hv, hbb, hg, hnc, hcm, hcs, ht⟩
  · exact ⟨hx, by omega, fun hn => by omega⟩
  · injection hv with e1 e2 e3
    subst e1
    refine ⟨hx, by unfold maxLen at hcm; omega, fun _ => ⟨_, rfl, fun j p hp => ⟨[.int .u8 p], rfl, rfl, fun i u hu => ?_⟩⟩⟩
    have hi : i = 0 := by
      cases i with
      | zero => rfl
      | succ i => simp at hu
    subst hi
    have e : Value.int .u8 p = u := by simpa using hu
    subst e
    rw [show j * (Kd.int .u8).sz + 0 = j from Nat.mul_one j, add_at, Nat.zero_add, cell_of_row W g' _ _ _ _ hg]
    have h1 : (xs.map (Value.int .u8))[j]? = some (.int .u8 p) := by rw [List.getElem?_map, hp]; rfl
    rw [← ht, List.getElem?_take] at h1
    split at h1
    · rw [← Array.getElem?_toList]; exact h1
    · cases h1
theorem str_own {b c : Nat} {A : Option Addr} {xs : List Int} {n : Nat} (ho : W.ownsRow b 5 1 (.slice A n c) n (xs.map (Value.int .u8))) (hx : xs.length = n) : (convert 22 9 (.slice A n c)).run Try.prog W = .ok (.string (strOfNums xs)) W :=
  Kd.C_string (P := Try.prog) (A := A) (c := c) Try.underlying22 Try.underlying5 Try.underlying9 (C_of_own ho hx)
/-- The numbers of a box for a text. -/
structure BHd (n : Nat) (h : Hd) : Prop where
  room : h.room = n
  l0 : (n : Int) ≤ h.limit
  l1 : h.limit ≤ 2 * n
  r0 : 0 ≤ h.reach
  r1 : h.reach ≤ n
  fin : h.known = true → h.final = n
theorem BHd.new (n : Nat) : BHd n ⟨n, 0, n, 0, 0, false⟩ := ⟨rfl, Int.le_refl _, by simp only; omega, Int.le_refl _, by simp only; omega, fun h => by cases h⟩
theorem BHd.ends {n : Nat} (x : BHd n h) {e : Int} (he : e ≤ n) : endsV h e (e == n) = 0 := by
  unfold endsV
  have h1 := x.r1
  have h2 := x.l0
  have h3 := x.fin
  by_cases hen : e = n
  · subst hen
    have d1 : decide ((n : Int) < h.reach) = false := by simp; omega
    rw [d1]
    cases hk : h.known with
    | false => simp; omega
    | true =>
      rw [h3 hk]
      simp
      omega
  · have d0 : (e == (n : Int)) = false := by simp [hen]
    rw [d0]
    cases hk : h.known with
    | false => simp; omega
    | true =>
      rw [h3 hk]
      have d1 : decide (e > (n : Int)) = false := by simp; omega
      simp
      omega
theorem BHd.put {n : Nat} (x : BHd n h) {off : Int} {k : Nat} (h0 : 0 ≤ off) (he : off + k ≤ n) : BHd n (putH h off k (off + k == n)) ∧ (putH h off k (off + k == n)).place = h.place ∧ (h.known = true ∨ off + k = n → (putH h off k (off + k == n)).known = true) := by
  obtain ⟨a1, a2, a3, a4, a5, a6⟩ := x
  unfold putH
  by_cases hen : off + k = n
  · rw [show (off + (k : Int) == n) = true by simp [hen]]
    exact ⟨⟨a1, a2, a3, by simp only [if_true]; omega, by simp only [if_true]; omega, fun _ => hen⟩, rfl, fun _ => rfl⟩
  · rw [show (off + (k : Int) == n) = false by simp [hen]]
    refine ⟨⟨a1, a2, a3, by simp only [Bool.false_eq_true, if_false]; omega, by simp only [Bool.false_eq_true, if_false]; omega, a6⟩, rfl, fun hh => ?_⟩
    rcases hh with hh | hh
    · exact hh
    · exact absurd hh hen
theorem BHd.read {n : Nat} (x : BHd n h) {pl : Int} (h0 : 0 ≤ pl) (h1 : pl ≤ n) : BHd n { h with place := pl, limit := max h.limit (pl + h.room) } := by
  obtain ⟨a1, a2, a3, a4, a5, a6⟩ := x
  exact ⟨a1, by simp only; omega, by simp only; omega, a4, a5, a6⟩
/-- What holds. -/
structure BkSt (w : World) (g m : Nat) (h : Hd) (P : List Pc) (gv : Value) (got : List Int) (W : World) : Prop where
  bel : Below w.heap.size w W
  box : ∃ kv, BoxAt W w.heap.size g m kv.length h kv ∧ Pcs W (fun k => gv.ownBlock ≠ some k) kv P
  row : W.ownsRow w.heap.size 5 1 gv got.length (got.map (Value.int .u8))
theorem BkSt.below (x : BkSt w g m h P gv got W) (hb : Below W.heap.size W W') : BkSt w g m h P gv got W' := by
  obtain ⟨kv, h1, h2⟩ := x.box
  exact ⟨x.bel.trans (hb.mono x.bel.size), ⟨kv, h1.below hb, h2.below hb⟩, own_butM x.row (ButM.of_below (m := m) hb) h1.mp⟩
theorem BkSt.drew (x : BkSt w g m h P gv got W) : BkSt w g m h P gv got W.drew := x.below (Below.refl _ W).drew
/-- The row's block is none of the box's. -/
theorem BkSt.apart (x : BkSt w g m h P gv got W) (k : Nat) (hk : gv.ownBlock = some k) : k < W.heap.size ∧ k ≠ g ∧ k ≠ m := by
  obtain ⟨kv, h1, h2⟩ := x.box
  obtain ⟨_, cs, hc⟩ := own_typed x.row k hk
  refine ⟨(Array.getElem?_eq_some_iff.1 hc).1, ?_, fun e => map_ne_cells h1.mp hc e.symm⟩
  rintro rfl
  rw [h1.blk] at hc
  injection hc with hc
  injection hc with _ hc
  exact absurd hc (by decide)
theorem BkSt.after {kv : KV} {h' : Hd} {P' : List Pc} (x : BkSt w g m h P gv got W) (hx : BoxAt W' w.heap.size g m kv.length h' kv) (hp : Pcs W' (fun k => gv.ownBlock ≠ some k) kv P') (hb : Below w.heap.size W W') (hf : ∀ k, k < W.heap.size → k ≠ g → k ≠ m → W'.heap[k]? = W.heap[k]?) : BkSt w g m h' P' gv got W' :=
  ⟨x.bel.trans hb, ⟨kv, hx, hp⟩, own_move x.row (fun k hk => by obtain ⟨a1, a2, a3⟩ := x.apart k hk; exact hf k a1 a2 a3)⟩
theorem few_len (hok : OkP h.place P) (hn : text.length ≤ 1048576) (x : BackI text h.place got P) : P.length ≤ 1048576 ∧ heldP P ≤ 1048576 ∧ 0 ≤ h.place ∧ h.place ≤ text.length := by
  have h1 := x.le
  have h2 := x.held
  have h3 := x.gl
  have h4 := okP_few x.ok h1 x.ends
  exact ⟨by omega, by omega, by omega, h1⟩
theorem bk_put (x : BkSt w g m h P gv got W) (hb : BackI text h.place got P) (hd : BHd text.length h) (hn : text.length ≤ 1048576) {at_ k cap : Nat} (hk : at_ + k ≤ text.length) (hcap : k ≤ cap) (A : Option Addr)
    (hA : 0 < k → ∃ ad, A = some ad ∧ ad.block < w.heap.size ∧ ∀ i u, ((text.drop at_).take k)[i]? = some u → w.cell? (ad.add i) = some (.int .u8 u)) (fin : Bool) (hfin : fin = ((at_ : Int) + k == text.length)) :
    Calls Try.prog 19 #[.pointer (some ⟨g, 0, none⟩), .int .i64 at_, .slice A k cap, .bool fin] W fun e w' => e = .returned (.int .i64 0) ∧ BkSt w g m (putH h at_ k fin) (fill ((text.drop at_).take k) at_ P (max (at_ : Int) h.place) (at_ + k)) gv got w' := by
  obtain ⟨kv, h1, h2⟩ := x.box
  obtain ⟨b1, b2, b3, b4⟩ := few_len hb.ok hn hb
  have hxl : ((text.drop at_).take k).length = k := by rw [List.length_take, List.length_drop]; omega
  have hkv := h2.length
  have hen : ∀ p ∈ P, p.1 + p.2.length ≤ 4611686018427387903 := fun p hp => by have := hb.ends p hp; omega
  have r0 := hd.r0
  have r1 := hd.r1
  refine (put_s h1 h2 hb.ok (by omega) (by omega) hen (at_ : Int) A k cap fin (by omega) (by omega) (by omega) (by rw [hfin]; exact hd.ends (by omega)) b3 r0 (by omega) x.bel.size (fun kk hkk he => by have := (x.apart kk he).1; omega) hcap _ hxl (fun h0 => ?_)).mono ?_
  · obtain ⟨ad, hA1, hA2, hA3⟩ := hA h0
    have q1 := h1.hg
    have q2 := h1.hm
    exact ⟨ad, hA1, by omega, by omega, by have := x.bel.size; omega, fun i u hu => (World.cell?_of_block (x.bel.block _ (by rw [add_blk]; exact hA2))).trans (hA3 i u hu)⟩
  · rintro e w' ⟨rfl, kv', hx, hp, hf, hbw⟩
    exact ⟨rfl, x.after hx hp hbw hf⟩
theorem bk_read (x : BkSt w g m h P gv got W) (hb : BackI text h.place got P) (hd : BHd text.length h) (hn : text.length ≤ 1048576) (N : Int) (hN0 : -9223372036854775808 ≤ N) (hN1 : N ≤ 9223372036854775807) :
    Calls Try.prog 20 #[.pointer (some ⟨g, 0, none⟩), .int .i64 N] W fun e w' => ∃ A c, e = .returned (.tuple #[.slice A (readP h.place N P).1.length c, .bool (h.known && ((readP h.place N P).2.1 == h.final))]) ∧
      w'.ownsRow W.heap.size 5 1 (.slice A (readP h.place N P).1.length c) (readP h.place N P).1.length ((readP h.place N P).1.map (Value.int .u8)) ∧
      BkSt w g m { h with place := (readP h.place N P).2.1, limit := max h.limit ((readP h.place N P).2.1 + h.room) } (readP h.place N P).2.2 gv got w' ∧ W.heap.size ≤ w'.heap.size := by
  obtain ⟨kv, h1, h2⟩ := x.box
  obtain ⟨b1, b2, b3, b4⟩ := few_len hb.ok hn hb
  have hen : ∀ p ∈ P, p.1 + p.2.length ≤ 4611686018427387903 := fun p hp => by have := hb.ends p hp; omega
  have l0 := hd.l0
  have l1 := hd.l1
  have rm := hd.room
  refine (read_s h1 h2 hb.ok b3 (by omega) hen b2 b1 (by omega) (by omega) (by omega) (by omega) x.bel.size N hN0 hN1).mono ?_
  rintro e w' ⟨A, c, kv', rfl, ho, hx, hp, hf⟩
  refine ⟨A, c, rfl, ho, x.after hx (hp.mono (fun k _ hk => hk.1)) (hf.bel h1.hm h1.hg x.bel.size) (fun k hk e1 e2 => hf.block k hk e2 e1), hf.size⟩
theorem bk_held (x : BkSt w g m h P gv got W) (hb : BackI text h.place got P) (hn : text.length ≤ 1048576) :
    Calls Try.prog 21 #[.pointer (some ⟨g, 0, none⟩)] W fun e w' => e = .returned (.int .i64 (heldP P : Nat)) ∧ BkSt w g m h P gv got w' := by
  obtain ⟨kv, h1, h2⟩ := x.box
  obtain ⟨b1, b2, b3, b4⟩ := few_len hb.ok hn hb
  refine (held_s h1 h2 (by omega)).mono ?_
  rintro e w' ⟨rfl, hbl⟩
  exact ⟨rfl, x.below hbl⟩
theorem bk_limit (x : BkSt w g m h P gv got W) : Calls Try.prog 22 #[.pointer (some ⟨g, 0, none⟩)] W fun e w' => e = .returned (.int .i64 h.limit) ∧ BkSt w g m h P gv got w' := by
  obtain ⟨kv, h1, h2⟩ := x.box
  refine (limit_s h1).mono ?_
  rintro e w' ⟨rfl, rfl⟩
  exact ⟨rfl, x⟩
/-- The row goes on. -/
theorem BkSt.more {v3 : Value} {out : List Int} (x : BkSt w g m h P gv got W) (hg : W.grownBy W' gv.ownBlock) (ho : W'.ownsRow w.heap.size 5 1 v3 (got.length + out.length) (got.map (Value.int .u8) ++ out.map (Value.int .u8))) (ha : v3.ownBlock = gv.ownBlock ∨ v3.ownBlock = some W.heap.size) : BkSt w g m h P v3 (got ++ out) W' := by
  obtain ⟨kv, h1, h2⟩ := x.box
  refine ⟨x.bel.grown hg x.bel.size (fun k hk => (own_typed x.row k hk).1), ⟨kv, h1.grown hg (fun e => (x.apart g e.symm).2.1 rfl) (fun e => (x.apart m e.symm).2.2 rfl), ?_⟩, by rw [List.length_append, List.map_append]; exact ho⟩
  have h3 : Pcs W (fun k => gv.ownBlock ≠ some k ∧ v3.ownBlock ≠ some k) kv P := h2.mono (fun k hk hd => ⟨hd, fun e => by
    rcases ha with ha | ha
    · exact hd (by rw [← ha]; exact e)
    · rw [ha] at e
      injection e with e
      omega⟩)
  have h4 := h3.moveD (W' := W') (fun k hk hd => hg.block k hk (fun e => hd.1 e.symm))
  exact h4.mono (fun k _ hd => hd.2)
theorem run_cut2 {P : Program} (t e : TypeId) (kl kh : IntKind) {i : TypeInfo} (ht : P.underlying t = some (.slice e)) (hi : P.info? e = some i) (size : Nat) (hsz : i.size = size) (A : Option Addr) (n c : Nat) (lo hi' : Int) (h0 : 0 ≤ lo) (h1 : lo ≤ hi') (hc : hi' ≤ c) :
    ∀ W : World, (Instr.slice t (.slice A n c) (some (.int kl lo)) (some (.int kh hi')) none).run P W = .ok (.slice (if c = lo.toNat then A else A.map (·.add (lo.toNat * size))) (hi'.toNat - lo.toNat) (c - lo.toNat)) W := by
  intro W
  have e2 : (0 ≤ hi' ∧ hi' ≤ (c : Int)) = True := eq_true ⟨by omega, hc⟩
  have e3 : (0 ≤ lo ∧ lo ≤ ((hi'.toNat : Nat) : Int)) = True := eq_true ⟨by omega, by omega⟩
  subst hsz
  simp only [Instr.slice, Instr.sliceBounds, Instr.sliceBound, asIntOf, Sem.run_bind, run_underlying ht, Result.andThen_ok, Sem.run_pure, e2, e3, if_true, sizeOf, typeInfo, hi]
  simp [hi, e2, e3]
end Go.Proofs.Ytakmcbakogjeeaa.Ib
