/- InboxBack: the law's walk; no condition but the reach of its arguments. -/
import Derived.Test.YtakmcbakogjeeaaIbBk
set_option linter.unusedVariables false
set_option linter.unusedSimpArgs false
namespace Go.Proofs.Ytakmcbakogjeeaa.Ib
open Go Go.RowKit Go.Maps Go.Proofs.Ytakmcbakogjeeaa.Rm
open Go.Proofs.YtakmcbakogjeeaaW.PrintWords Go.Proofs.YtakmcbakogjeeaaW.PrintLast Go.Proofs.YtakmcbakogjeeaaW.PrintMore
theorem came_byte {w : World} {A : Option Addr} {xs : List Int} (h : Kd.C (Kd.int .u8) w A xs.length xs) (h0 : 0 < xs.length) : ∃ ad, A = some ad ∧ ad.block < w.heap.size ∧ ∀ i u, xs[i]? = some u → w.cell? (ad.add i) = some (.int .u8 u) := by
  obtain ⟨ad, hA, hq⟩ := h.2.2 h0
  have hc : ∀ i u, xs[i]? = some u → w.cell? (ad.add i) = some (.int .u8 u) := fun i u hu => by
    obtain ⟨c, _, hr, hcell⟩ := hq i u hu
    have e : c = [.int .u8 u] := hr
    subst e
    have h := hcell 0 _ rfl
    rw [show (Kd.int .u8).sz = 1 from rfl, Nat.mul_one, Nat.add_zero] at h
    exact h
  refine ⟨ad, hA, ?_, hc⟩
  obtain ⟨u, hu⟩ : ∃ u, xs[0]? = some u := ⟨_, List.getElem?_eq_getElem h0⟩
  have := World.block_lt_of_cell? w _ (hc 0 u hu)
  rwa [add_blk] at this
/-- A piece that came in. -/
abbrev pieceK : Kd (Int × Int) := Kd.pair (Kd.int .i64) (Kd.int .i64)
theorem came_piece {w : World} {A : Option Addr} {xs : List (Int × Int)} {k : Nat} {x : Int × Int} (h : Kd.C pieceK w A xs.length xs) (hk : xs[k]? = some x) :
    ∃ ad, A = some ad ∧ w.cell? (ad.add (k * 2)) = some (.int .i64 x.1) ∧ w.cell? (ad.add (k * 2 + 1)) = some (.int .i64 x.2) := by
  have hlt := (List.getElem?_eq_some_iff.1 hk).1
  obtain ⟨ad, hA, hq⟩ := h.2.2 (by omega)
  obtain ⟨cs, _, ⟨c0, c1, rfl, h0, h1⟩, hcell⟩ := hq k x hk
  have e0 : c0 = [.int .i64 x.1] := h0
  have e1 : c1 = [.int .i64 x.2] := h1
  subst e0; subst e1
  exact ⟨ad, hA, hcell 0 _ rfl, hcell 1 _ rfl⟩
theorem came_num {w : World} {A : Option Addr} {xs : List Int} {k : Nat} {x : Int} (h : Kd.C (Kd.int .i64) w A xs.length xs) (hk : xs[k]? = some x) : ∃ ad, A = some ad ∧ w.cell? (ad.add k) = some (.int .i64 x) := by
  have hlt := (List.getElem?_eq_some_iff.1 hk).1
  obtain ⟨ad, hA, hq⟩ := h.2.2 (by omega)
  obtain ⟨cs, _, hr, hcell⟩ := hq k x hk
  have e : cs = [.int .i64 x] := hr
  subst e
  have h := hcell 0 _ rfl
  rw [show (Kd.int .i64).sz = 1 from rfl, Nat.mul_one, Nat.add_zero] at h
  exact ⟨ad, hA, h⟩
theorem wrap_in {x : Int} (h0 : -9223372036854775808 ≤ x) (h1 : x ≤ 9223372036854775807) : wrap64 x = x := by
  unfold wrap64
  omega
theorem at_is (x : Int) (n : Nat) (hn : n ≤ 1048576) : ∃ a : Nat, a ≤ n ∧ (wrap64 (wrap64 (x.tmod ((n : Int) + 1) + n) + 1)).tmod ((n : Int) + 1) = (a : Int) := by
  have h1 := Int.tmod_lt_of_pos x (show (0 : Int) < (n : Int) + 1 by omega)
  have h2 := Int.lt_tmod_of_pos x (show (0 : Int) < (n : Int) + 1 by omega)
  obtain ⟨y, hy⟩ : ∃ y, x.tmod ((n : Int) + 1) = y := ⟨_, rfl⟩
  rw [hy] at h1 h2 ⊢
  rw [wrap_in (x := y + n) (by omega) (by omega), wrap_in (by omega) (by omega)]
  have h3 := Int.tmod_lt_of_pos (y + n + 1) (show (0 : Int) < (n : Int) + 1 by omega)
  have h4 := Int.tmod_nonneg ((n : Int) + 1) (show (0 : Int) ≤ y + n + 1 by omega)
  exact ⟨((y + n + 1).tmod ((n : Int) + 1)).toNat, by omega, by omega⟩
theorem len_is (x : Int) (n a : Nat) (hn : n ≤ 1048576) (ha : a ≤ n) : ∃ k : Nat, a + k ≤ n ∧ (wrap64 (wrap64 (wrap64 (x.tmod ((n : Int) - a + 1) + n) - a) + 1)).tmod ((n : Int) - a + 1) = (k : Int) := by
  have h1 := Int.tmod_lt_of_pos x (show (0 : Int) < (n : Int) - a + 1 by omega)
  have h2 := Int.lt_tmod_of_pos x (show (0 : Int) < (n : Int) - a + 1 by omega)
  obtain ⟨y, hy⟩ : ∃ y, x.tmod ((n : Int) - a + 1) = y := ⟨_, rfl⟩
  rw [hy] at h1 h2 ⊢
  rw [wrap_in (x := y + n) (by omega) (by omega), wrap_in (x := y + n - a) (by omega) (by omega), wrap_in (by omega) (by omega)]
  have h3 := Int.tmod_lt_of_pos (y + n - a + 1) (show (0 : Int) < (n : Int) - a + 1 by omega)
  have h4 := Int.tmod_nonneg ((n : Int) - a + 1) (show (0 : Int) ≤ y + n - a + 1 by omega)
  exact ⟨((y + n - a + 1).tmod ((n : Int) - a + 1)).toNat, by omega, by omega⟩
theorem C_take {w : World} {A : Option Addr} {xs : List Int} {n k : Nat} (h : Kd.C (Kd.int .u8) w A n xs) (hk : k ≤ n) : Kd.C (Kd.int .u8) w A k (xs.take k) := by
  obtain ⟨h1, h2, h3⟩ := h
  refine ⟨by rw [List.length_take]; omega, by omega, fun h0 => ?_⟩
  obtain ⟨ad, hA, hq⟩ := h3 (by omega)
  refine ⟨ad, hA, fun j p hp => hq j p ?_⟩
  rw [List.getElem?_take] at hp
  split at hp
  · exact hp
  · cases hp
theorem str_pre {w W : World} {A : Option Addr} {c n k : Nat} {xs : List Int} (h : Kd.C (Kd.int .u8) w A n xs) (hk : k ≤ n) (hb : Below w.heap.size w W) : (convert 22 9 (.slice A k c)).run Try.prog W = .ok (.string (strOfNums (xs.take k))) W :=
  Kd.C_string (P := Try.prog) (A := A) (c := c) Try.underlying22 Try.underlying5 Try.underlying9 (Kd.C_below (C_take h hk) hb)
section
variable {w W : World} {g m np i : Nat} {h : Hd} {P : List Pc} {gv : Value} {got text : List Int}
/-- All that holds of a box and its text. -/
structure BkIn (text : List Int) (np i : Nat) (h : Hd) (P : List Pc) (got : List Int) : Prop where
  b : BackI text h.place got P
  d : BHd text.length h
  k : np < i → h.known = true
  c : ∀ z ∈ bytesFrom 0 text, (text.length : Int) - ((i : Int) - 1 - np) ≤ z.1 → z.1 < h.place ∨ z ∈ flat P
theorem bk_put2 (x : BkSt w g m h P gv got W) (y : BkIn text np i h P got) (hn : text.length ≤ 1048576) {at_ k cap : Nat} (hk : at_ + k ≤ text.length) (hcap : k ≤ cap) (A : Option Addr)
    (hA : 0 < k → ∃ ad, A = some ad ∧ ad.block < w.heap.size ∧ ∀ i u, ((text.drop at_).take k)[i]? = some u → w.cell? (ad.add i) = some (.int .u8 u))
    (hx1 : np < i + 1 → h.known = true ∨ at_ + k = text.length) (hx2 : ∀ z ∈ bytesFrom 0 text, (text.length : Int) - (((i + 1 : Nat) : Int) - 1 - np) ≤ z.1 → (z.1 < h.place ∨ z ∈ flat P) ∨ ((at_ : Int) ≤ z.1 ∧ z.1 < at_ + k)) :
    Calls Try.prog 19 #[.pointer (some ⟨g, 0, none⟩), .int .i64 at_, .slice A k cap, .bool ((at_ : Int) + k == text.length)] W fun e w' => e = .returned (.int .i64 0) ∧ ∃ h2 P2, BkSt w g m h2 P2 gv got w' ∧ BkIn text np (i + 1) h2 P2 got := by
  refine (bk_put x y.b y.d hn hk hcap A hA _ rfl).mono ?_
  rintro e w' ⟨rfl, hs⟩
  obtain ⟨a1, a2, a3⟩ := y.d.put (off := at_) (k := k) (by omega) (by omega)
  obtain ⟨b1, b2, b3⟩ := y.b.put hk
  refine ⟨rfl, _, _, hs, ⟨by rw [a2]; exact b1, a1, fun hi => a3 ((hx1 hi).imp id (fun e => by omega)), fun z hz hle => ?_⟩⟩
  rw [a2]
  rcases hx2 z hz hle with (h1 | h1) | ⟨h1, h2⟩
  · exact .inl h1
  · exact .inr (b2 z h1)
  · exact b3 z hz h1 h2
theorem bk_read2 (x : BkSt w g m h P gv got W) (y : BkIn text np i h P got) (hn : text.length ≤ 1048576) (N : Int) (hN0 : -9223372036854775808 ≤ N) (hN1 : N ≤ 9223372036854775807) :
    Calls Try.prog 20 #[.pointer (some ⟨g, 0, none⟩), .int .i64 N] W fun e w' => ∃ A c out dn h2 P2, e = .returned (.tuple #[.slice A out.length c, .bool dn]) ∧ w'.ownsRow W.heap.size 5 1 (.slice A out.length c) out.length (out.map (Value.int .u8)) ∧
      BkSt w g m h2 P2 gv got w' ∧ BkIn text np i h2 P2 (got ++ out) ∧ (dn = true → (got ++ out).length = text.length) ∧ (N = text.length → np + text.length < i → dn = true ∧ got ++ out = text) := by
  refine (bk_read x y.b y.d hn N hN0 hN1).mono ?_
  rintro e w' ⟨A, c, rfl, ho, hs, _⟩
  obtain ⟨b1, b2⟩ := y.b.read N
  have hpl : h.place ≤ (readP h.place N P).2.1 := by have := (read_ok P h.place N y.b.ok).2.2.1; omega
  have h0 : 0 ≤ (readP h.place N P).2.1 := by have := b1.gl; omega
  refine ⟨A, c, _, _, _, _, rfl, ho, hs, ⟨b1, y.d.read h0 b1.le, y.k, fun z hz hle => ?_⟩, fun hd => ?_, fun hN hi => ?_⟩
  · simp only
    by_cases hz1 : z.1 < (readP h.place N P).2.1
    · exact .inl hz1
    · rcases y.c z hz hle with h1 | h1
      · exact .inl (by omega)
      · exact .inr (b2 z h1 (by omega))
  · rw [Bool.and_eq_true, beq_iff_eq] at hd
    have h1 := y.d.fin hd.1
    have h2 := b1.gl
    omega
  · subst hN
    obtain ⟨q1, q2⟩ := y.b.all (fun z hz => y.c z hz (by have := mem_bytes_range hz; omega))
    have hk := y.k (by omega)
    refine ⟨?_, q1⟩
    rw [hk, q2, y.d.fin hk]
    simp
theorem BkIn.facts (y : BkIn text np i h P got) (hn : text.length ≤ 1048576) : got.length ≤ text.length ∧ (heldP P : Int) ≤ h.limit - got.length ∧ 0 ≤ h.limit ∧ h.limit ≤ 2097152 ∧ heldP P ≤ 1048576 ∧ text.take got.length = got := by
  have h1 := y.b.le
  have h2 := y.b.held
  have h3 := y.b.gl
  have h4 := y.d.l0
  have h5 := y.d.l1
  exact ⟨by omega, by omega, by omega, by omega, by omega, y.b.gt.symm⟩
end
theorem wpList_append_row {W : World} {P : Program} {ops : Array Oper} {rest : List Oper} {o : Oper} {a : Act} {Q : Exit → Act → World → Prop} (hgd : o.guard = none) (s x : Operand) (t : TypeId)
    (ho : o.op = .call { callee := .builtin .append, args := #[s, x], argTypes := #[t, t] })
    (base : Nat) (e : TypeId) (i : TypeInfo) (z : Value) (bytes : Nat) (ht : P.underlying t = some (.slice e)) (hi : P.info? e = some i) (hz : i.zero = some z)
    (hsize : i.size = 1) (hby : i.bytes = bytes) (hzs : z.cells.size = 1)
    (v : Value) (n : Nat) (xs : List Value) (hs : a.eval s = v) (hown : W.ownsRow base e 1 v n xs) (vx : Value) (m b2 : Nat) (ys : List Value) (hx : a.eval x = vx) (hrow : W.ownsRow b2 e 1 vx m ys) (h1 : ∀ u ∈ ys, u.oneCell' = true)
    (h63 : n + m ≤ maxLen) (hbytes : (n + m) * bytes ≤ 140737488355328) (hbase : base ≤ W.heap.size)
    (h : ∀ v' w', w'.ownsRow base e 1 v' (n + m) (xs ++ ys) → W.grownBy w' v.ownBlock → (v'.ownBlock = v.ownBlock ∨ v'.ownBlock = some W.heap.size) → wpList P ops Q rest (a.put o.dst v') w') :
    wpList P ops Q (o :: rest) a W := by
  rcases hrow.2 with ⟨hv, h0⟩ | ⟨g', c', cur, hv, hbb, hgg, hnc, hcm, hcs, ht'⟩
  · have hy : ys = [] := List.eq_nil_of_length_eq_zero (by rw [hrow.1, h0])
    subst h0; subst hy
    exact wpList_append_own_none hgd s x t ho base e i 1 ht hi v n xs hs hown (hx.trans hv) (h v W (by simpa using hown) ⟨rfl, rfl, rfl, Nat.le_refl _, fun _ _ _ => rfl⟩ (.inl rfl))
  · refine wpList_append_own_at W hgd s x t ho base e i z 1 bytes ht hi hz hsize hby hzs (by decide) v n xs hs hown ⟨g', 0, none⟩ m c' ys (hx.trans hv) hrow.1 (fun j u hu => ?_) h1 h63 hbytes hbase (fun v' w' a1 a2 _ a4 => h v' w' a1 a2 a4)
    rw [add_at, Nat.zero_add, cell_of_row W g' _ _ _ _ hgg]
    rw [Nat.mul_one] at ht'
    rw [← ht', List.getElem?_take] at hu
    split at hu
    · rw [← Array.getElem?_toList]; exact hu
    · cases hu
theorem str_app (a b : List Int) : strOfNums (a ++ b) = strOfNums a ++ strOfNums b := by
  apply ByteArray.ext
  simp [strOfNums]
theorem str_size (a : List Int) : (strOfNums a).size = a.length := by simp [strOfNums, ByteArray.size]
/-- Under way. -/
def BkRel (w : World) (g m : Nat) (text : List Int) (np : Nat) (gv iv : Value) (W : World) : Prop :=
  ∃ (i : Nat) (h : Hd) (P : List Pc) (got : List Int) (A : Option Addr) (c : Nat), i ≤ np + text.length + 1 ∧ iv = .int .i64 i ∧ gv = .slice A got.length c ∧ BkSt w g m h P gv got W ∧ BkIn text np i h P got
set_option maxRecDepth 100000 in
set_option maxHeartbeats 12800000 in
theorem back_walk (A0 : Option Addr) (text : List Int) (c0 : Nat) (A1 : Option Addr) (pcs : List (Int × Int)) (c1 : Nat) (A2 : Option Addr) (takes : List Int) (c2 : Nat) (w : World)
    (hr0 : Kd.C (Kd.int .u8) w A0 text.length text) (hcap0 : text.length ≤ c0) (hl0 : text.length ≤ 140737488351232)
    (hr1 : Kd.C pieceK w A1 pcs.length pcs) (hl1 : pcs.length ≤ 140737488351232) (hlo1 : ∀ x ∈ pcs, (-9223372036854775808 ≤ x.1 ∧ x.1 ≤ 9223372036854775807) ∧ -9223372036854775808 ≤ x.2 ∧ x.2 ≤ 9223372036854775807)
    (hr2 : Kd.C (Kd.int .i64) w A2 takes.length takes) (hl2 : takes.length ≤ 140737488351232) (hlo2 : ∀ x ∈ takes, -9223372036854775808 ≤ x ∧ x ≤ 9223372036854775807) :
    Calls Try.prog 4 #[.slice A0 text.length c0, .slice A1 pcs.length c1, .slice A2 takes.length c2] w fun e w' => e = .returned (.bool true) ∧ Below w.heap.size w w' := by
  have HR0 := Aside0.mk hr0
  have HR1 := Aside0.mk hr1
  have HR2 := Aside0.mk hr2
  have HLO1 := Aside0.mk hlo1
  have HLO2 := Aside0.mk hlo2
  have HC0 := Aside0.mk hcap0
  clear hr0 hr1 hr2 hlo1 hlo2 hcap0
  by_cases hbig : text.length > 1048576
  · have hbig' : (text.length : Int) > 1048576 := by omega
    clear hbig
    go_enter Try.func4, Try.ntmps4
    go_wp2_with fail
    go_ret
    exact ⟨rfl, Below.refl _ _⟩
  · have hn : text.length ≤ 1048576 := by omega
    clear hbig
    go_enter Try.func4, Try.ntmps4
    go_wp2_with (go_at_call 15; (with_reducible refine (new_s w (text.length : Int) (by omega) (by omega)).mono ?_); rintro e w1 ⟨g, rfl, hx, hb⟩; have X0 := Aside0.mk hx; have HB0 := Aside0.mk hb; clear hx hb)
    go_loopw [10, 11] (fun gv iv W => BkRel w g w.heap.size text pcs.length gv iv W) (fun _ iv _ => pcs.length + text.length + 1 - (intOf iv).toNat)
    case atStart => exact ⟨0, _, [], [], none, 0, by omega, rfl, rfl, ⟨HB0.out, ⟨[], X0.out, trivial⟩, World.ownsRow_nil _ _ _ _⟩, BackI.new text, BHd.new _, (fun h => by omega), (fun z hz hle => by have := mem_bytes_range hz; omega)⟩
    case round =>
      clear X0 HB0
      obtain ⟨i, h, P, got, A, c, hi, rfl, rfl, hs, hin⟩ := hrel
      have HS := Aside0.mk hs
      have HI := Aside0.mk hin
      clear hs hin
      by_cases hlt : i ≤ pcs.length + text.length
      · by_cases hp : i < pcs.length
        · obtain ⟨x, hx⟩ : ∃ x, pcs[i]? = some x := ⟨_, List.getElem?_eq_getElem hp⟩
          obtain ⟨ad, hA1, g0, g1⟩ := came_piece HR1.out hx
          subst hA1
          have e0 := pw_cell_below HS.out.bel g0
          have e1 := pw_cell_below HS.out.bel g1
          clear g0 g1 hx
          rw [add_field _ _ _ (by decide)] at e1
          go_upto_region 14 with fail
          obtain ⟨a, ha1, ha2⟩ := at_is x.1 text.length hn
          rw [ha2]
          clear ha2 e0
          generalize x.1.tmod ((text.length : Int) + 1) = t1
          go_upto_region 17 with fail
          obtain ⟨k, hk1, hk2⟩ := len_is x.2 text.length a hn ha1
          rw [hk2]
          clear hk2 e1
          generalize x.2.tmod ((text.length : Int) - a + 1) = t2
          have HX : Aside0 ((pcs.length < i + 1 → h.known = true ∨ a + k = text.length) ∧ ∀ z ∈ bytesFrom 0 text, (text.length : Int) - (((i + 1 : Nat) : Int) - 1 - pcs.length) ≤ z.1 → (z.1 < h.place ∨ z ∈ flat P) ∨ ((a : Int) ≤ z.1 ∧ z.1 < a + k)) := ⟨fun h => by omega, fun z hz hle => by have := mem_bytes_range hz; omega⟩
          obtain ⟨i0, hi0, hz0, hz1, hz2⟩ := info_parts info8
          have hcut := run_cut2 (P := Try.prog) 22 5 .i64 .i64 Try.underlying22 hi0 1 hz1 A0 text.length c0 (a : Int) ((a : Int) + k) (by omega) (by omega) (by have := HC0.out; omega)
          rw [show ((a : Int) + (k : Int)).toNat = a + k by omega, show ((a : Int)).toNat = a by omega, Nat.mul_one, Nat.add_sub_cancel_left] at hcut
          have hck : k ≤ c0 - a := by have := HC0.out; omega
          obtain ⟨A3, hA3⟩ : ∃ A3, (if c0 = a then A0 else A0.map (·.add a)) = A3 := ⟨_, rfl⟩
          have HA3 : Aside0 (0 < k → ∃ ad, A3 = some ad ∧ ad.block < w.heap.size ∧ ∀ i u, ((text.drop a).take k)[i]? = some u → w.cell? (ad.add i) = some (.int .u8 u)) := ⟨fun h0 => by
            obtain ⟨ad0, hA, hlt0, hc⟩ := came_byte HR0.out (by omega)
            rw [if_neg (by have := HC0.out; omega), hA] at hA3
            refine ⟨ad0.add a, hA3.symm, by rw [add_blk]; exact hlt0, fun j u hu => ?_⟩
            rw [Addr.add_add]
            rw [List.getElem?_take] at hu
            split at hu
            · rw [List.getElem?_drop] at hu
              exact hc _ u hu
            · cases hu⟩
          rw [hA3] at hcut
          clear hA3
          have CP := Aside0.mk (bk_put2 HS.out HI.out hn hk1 hck A3 HA3.out HX.out.1 HX.out.2)
          clear hck
          go_upto_region 19 with (go_at_call 19; (with_reducible refine CP.out.mono ?_); rintro e w2 ⟨rfl, h2, P2, hs, hin⟩; have HS2 := Aside0.mk hs; have HI2 := Aside0.mk hin; clear hs hin)
          clear HS HI HX CP HA3 hcut
          by_cases ht : i < takes.length
          · obtain ⟨N, hN⟩ : ∃ N, takes[i]? = some N := ⟨_, List.getElem?_eq_getElem ht⟩
            obtain ⟨ad2, hA2, gt⟩ := came_num HR2.out hN
            subst hA2
            obtain ⟨hN0, hN1⟩ := HLO2.out N (List.mem_of_getElem? hN)
            have et := pw_cell_below HS2.out.bel gt
            clear gt hN
            have CR := Aside0.mk (bk_read2 HS2.out HI2.out hn N hN0 hN1)
            go_upto_region 21 with (go_at_call 20; (with_reducible refine CR.out.mono ?_); rintro e w3 ⟨Ax, cx, out, dn, h3, P3, rfl, ho, hs, hin, hdn, _⟩; have HX3 := Aside0.mk ho; have HS2' := Aside0.mk hs; have HI3 := Aside0.mk hin; have HDN := Aside0.mk hdn; clear ho hs hin hdn et)
            clear HS2 HI2 CR
            have hgl := (HI3.out.facts hn).1
            rw [List.length_append] at hgl
            go_upto_region 22 with (at_builtin; refine wpList_append_row rfl _ _ 22 rfl w.heap.size 5 i0 _ 1 Try.underlying22 hi0 hz0 hz1 hz2 rfl (.slice A got.length c) got.length (got.map (Value.int .u8)) rfl HS2'.out.row (.slice Ax out.length cx) out.length _ (out.map (Value.int .u8)) rfl HX3.out (fun u hu => one_u8 hu) (by unfold maxLen; omega) (by omega) HS2'.out.bel.size ?_; intro v4 w4 q1 q2 q3; have HS3 := Aside0.mk (HS2'.out.more q2 q1 q3); clear q1 q2 q3)
            obtain ⟨A4, c4, hv4, _⟩ := own_form HS3.out.row
            subst hv4
            obtain ⟨G, hG⟩ : ∃ G, got ++ out = G := ⟨_, rfl⟩
            rw [hG] at HS3 HI3 HDN ⊢
            clear hG hgl HX3 HS2'
            cases dn with
            | true =>
              have hgq : (G.length : Int) = text.length := by have := HDN.out rfl; omega
              go_upto_region 24 with fail
              clear hgq
              have hle2 : (G.length : Int) ≤ text.length := by have := (HI3.out.facts hn).1; omega
              obtain ⟨_, f2, f3, f4, f5, f6⟩ := HI3.out.facts hn
              have hcG : G.length ≤ c0 := by have := HC0.out; omega
              have hcG' : (0 : Int) ≤ (G.length : Int) ∧ (G.length : Int) ≤ (c0 : Int) := by omega
              have hgn : decide (text.length < G.length) = false := decide_eq_false (by omega)
              have hwl : IntKind.i64.wrap (h3.limit - (G.length : Int)) = h3.limit - G.length := by rw [IntKind.wrap_i64]; omega
              have hgh : decide (h3.limit - (G.length : Int) < (heldP P3 : Nat)) = false := decide_eq_false (by omega)
              have s1 := str_own HS3.out.drew.row rfl
              have s2 := str_pre (c := c0) (k := G.length) HR0.out (by omega) HS3.out.drew.bel
              rw [f6] at s2
              have F6 := Aside0.mk f6
              clear f6
              have CH := Aside0.mk (fun (W : World) (hs : BkSt w g w.heap.size h3 P3 (.slice A4 G.length c4) G W) => bk_held hs HI3.out.b hn)
              have CL := Aside0.mk (fun (W : World) (hs : BkSt w g w.heap.size h3 P3 (.slice A4 G.length c4) G W) => bk_limit hs)
              have SP : Aside0 (∀ W : World, Below w.heap.size w W → (convert 22 9 (.slice A0 G.length c0)).run Try.prog W = .ok (.string (strOfNums G)) W) := ⟨fun W hb => by
                have := str_pre (c := c0) (k := G.length) HR0.out (by omega) hb
                rw [F6.out] at this
                exact this⟩
              go_region_held3 (fun w' => (convert 22 9 (.slice A4 G.length c4)).run Try.prog w' = .ok (.string (strOfNums G)) w' ∧ (convert 22 9 (.slice A0 G.length c0)).run Try.prog w' = .ok (.string (strOfNums G)) w')
                (first | exact ⟨str_own HS5.out.row rfl, SP.out _ HS5.out.bel⟩ | exact ⟨str_own HS4.out.row rfl, SP.out _ HS4.out.bel⟩ | exact ⟨s1, s2⟩) (first
                | (go_at_call 21; (with_reducible refine (CH.out _ (by first | exact HS3.out | exact HS3.out.drew)).mono ?_); rintro e w5 ⟨rfl, hs⟩; have HS4 := Aside0.mk hs; clear hs)
                | (go_at_call 22; (with_reducible refine (CL.out _ (by first | exact HS4.out | exact HS3.out | exact HS3.out.drew)).mono ?_); rintro e w6 ⟨rfl, hs⟩; have HS5 := Aside0.mk hs; clear hs))
              all_goals (go_wp2_with fail; exact ⟨⟨i + 1, h3, P3, G, A4, c4, by omega, by simp, rfl, HS5.out, HI3.out⟩, by simp [intOf]; omega⟩)
            | false =>
              by_cases hq : G.length = text.length
              · have hgq : (G.length : Int) = text.length := by omega
                go_upto_region 24 with fail
                clear hgq hq
                have hle2 : (G.length : Int) ≤ text.length := by have := (HI3.out.facts hn).1; omega
                obtain ⟨_, f2, f3, f4, f5, f6⟩ := HI3.out.facts hn
                have hcG : G.length ≤ c0 := by have := HC0.out; omega
                have hcG' : (0 : Int) ≤ (G.length : Int) ∧ (G.length : Int) ≤ (c0 : Int) := by omega
                have hgn : decide (text.length < G.length) = false := decide_eq_false (by omega)
                have hwl : IntKind.i64.wrap (h3.limit - (G.length : Int)) = h3.limit - G.length := by rw [IntKind.wrap_i64]; omega
                have hgh : decide (h3.limit - (G.length : Int) < (heldP P3 : Nat)) = false := decide_eq_false (by omega)
                have s1 := str_own HS3.out.drew.row rfl
                have s2 := str_pre (c := c0) (k := G.length) HR0.out (by omega) HS3.out.drew.bel
                rw [f6] at s2
                have F6 := Aside0.mk f6
                clear f6
                have CH := Aside0.mk (fun (W : World) (hs : BkSt w g w.heap.size h3 P3 (.slice A4 G.length c4) G W) => bk_held hs HI3.out.b hn)
                have CL := Aside0.mk (fun (W : World) (hs : BkSt w g w.heap.size h3 P3 (.slice A4 G.length c4) G W) => bk_limit hs)
                have SP : Aside0 (∀ W : World, Below w.heap.size w W → (convert 22 9 (.slice A0 G.length c0)).run Try.prog W = .ok (.string (strOfNums G)) W) := ⟨fun W hb => by
                  have := str_pre (c := c0) (k := G.length) HR0.out (by omega) hb
                  rw [F6.out] at this
                  exact this⟩
                go_region_held3 (fun w' => (convert 22 9 (.slice A4 G.length c4)).run Try.prog w' = .ok (.string (strOfNums G)) w' ∧ (convert 22 9 (.slice A0 G.length c0)).run Try.prog w' = .ok (.string (strOfNums G)) w')
                  (first | exact ⟨str_own HS5.out.row rfl, SP.out _ HS5.out.bel⟩ | exact ⟨str_own HS4.out.row rfl, SP.out _ HS4.out.bel⟩ | exact ⟨s1, s2⟩) (first
                  | (go_at_call 21; (with_reducible refine (CH.out _ (by first | exact HS3.out | exact HS3.out.drew)).mono ?_); rintro e w5 ⟨rfl, hs⟩; have HS4 := Aside0.mk hs; clear hs)
                  | (go_at_call 22; (with_reducible refine (CL.out _ (by first | exact HS4.out | exact HS3.out | exact HS3.out.drew)).mono ?_); rintro e w6 ⟨rfl, hs⟩; have HS5 := Aside0.mk hs; clear hs))
                all_goals (go_wp2_with fail; exact ⟨⟨i + 1, h3, P3, G, A4, c4, by omega, by simp, rfl, HS5.out, HI3.out⟩, by simp [intOf]; omega⟩)
              · have hgq : ((G.length : Int) == (text.length : Int)) = false := beq_eq_false_iff_ne.mpr (by omega)
                go_upto_region 24 with fail
                clear hgq hq
                have hle2 : (G.length : Int) ≤ text.length := by have := (HI3.out.facts hn).1; omega
                obtain ⟨_, f2, f3, f4, f5, f6⟩ := HI3.out.facts hn
                have hcG : G.length ≤ c0 := by have := HC0.out; omega
                have hcG' : (0 : Int) ≤ (G.length : Int) ∧ (G.length : Int) ≤ (c0 : Int) := by omega
                have hgn : decide (text.length < G.length) = false := decide_eq_false (by omega)
                have hwl : IntKind.i64.wrap (h3.limit - (G.length : Int)) = h3.limit - G.length := by rw [IntKind.wrap_i64]; omega
                have hgh : decide (h3.limit - (G.length : Int) < (heldP P3 : Nat)) = false := decide_eq_false (by omega)
                have s1 := str_own HS3.out.drew.row rfl
                have s2 := str_pre (c := c0) (k := G.length) HR0.out (by omega) HS3.out.drew.bel
                rw [f6] at s2
                have F6 := Aside0.mk f6
                clear f6
                have CH := Aside0.mk (fun (W : World) (hs : BkSt w g w.heap.size h3 P3 (.slice A4 G.length c4) G W) => bk_held hs HI3.out.b hn)
                have CL := Aside0.mk (fun (W : World) (hs : BkSt w g w.heap.size h3 P3 (.slice A4 G.length c4) G W) => bk_limit hs)
                have SP : Aside0 (∀ W : World, Below w.heap.size w W → (convert 22 9 (.slice A0 G.length c0)).run Try.prog W = .ok (.string (strOfNums G)) W) := ⟨fun W hb => by
                  have := str_pre (c := c0) (k := G.length) HR0.out (by omega) hb
                  rw [F6.out] at this
                  exact this⟩
                go_region_held3 (fun w' => (convert 22 9 (.slice A4 G.length c4)).run Try.prog w' = .ok (.string (strOfNums G)) w' ∧ (convert 22 9 (.slice A0 G.length c0)).run Try.prog w' = .ok (.string (strOfNums G)) w')
                  (first | exact ⟨str_own HS5.out.row rfl, SP.out _ HS5.out.bel⟩ | exact ⟨str_own HS4.out.row rfl, SP.out _ HS4.out.bel⟩ | exact ⟨s1, s2⟩) (first
                  | (go_at_call 21; (with_reducible refine (CH.out _ (by first | exact HS3.out | exact HS3.out.drew)).mono ?_); rintro e w5 ⟨rfl, hs⟩; have HS4 := Aside0.mk hs; clear hs)
                  | (go_at_call 22; (with_reducible refine (CL.out _ (by first | exact HS4.out | exact HS3.out | exact HS3.out.drew)).mono ?_); rintro e w6 ⟨rfl, hs⟩; have HS5 := Aside0.mk hs; clear hs))
                all_goals (go_wp2_with fail; exact ⟨⟨i + 1, h3, P3, G, A4, c4, by omega, by simp, rfl, HS5.out, HI3.out⟩, by simp [intOf]; omega⟩)
          · have ht' : takes.length ≤ i := by omega
            obtain ⟨G, hG⟩ : ∃ G, got = G := ⟨_, rfl⟩
            skip
            rw [hG] at HS2 HI2 ⊢
            have HS3 := HS2
            have HI3 := HI2
            clear HS2 HI2
            go_upto_region 24 with fail
            skip
            have hle2 : (G.length : Int) ≤ text.length := by have := (HI3.out.facts hn).1; omega
            obtain ⟨_, f2, f3, f4, f5, f6⟩ := HI3.out.facts hn
            have hcG : G.length ≤ c0 := by have := HC0.out; omega
            have hcG' : (0 : Int) ≤ (G.length : Int) ∧ (G.length : Int) ≤ (c0 : Int) := by omega
            have hgn : decide (text.length < G.length) = false := decide_eq_false (by omega)
            have hwl : IntKind.i64.wrap (h2.limit - (G.length : Int)) = h2.limit - G.length := by rw [IntKind.wrap_i64]; omega
            have hgh : decide (h2.limit - (G.length : Int) < (heldP P2 : Nat)) = false := decide_eq_false (by omega)
            have s1 := str_own HS3.out.drew.row rfl
            have s2 := str_pre (c := c0) (k := G.length) HR0.out (by omega) HS3.out.drew.bel
            rw [f6] at s2
            have F6 := Aside0.mk f6
            clear f6
            have CH := Aside0.mk (fun (W : World) (hs : BkSt w g w.heap.size h2 P2 (.slice A G.length c) G W) => bk_held hs HI3.out.b hn)
            have CL := Aside0.mk (fun (W : World) (hs : BkSt w g w.heap.size h2 P2 (.slice A G.length c) G W) => bk_limit hs)
            have SP : Aside0 (∀ W : World, Below w.heap.size w W → (convert 22 9 (.slice A0 G.length c0)).run Try.prog W = .ok (.string (strOfNums G)) W) := ⟨fun W hb => by
              have := str_pre (c := c0) (k := G.length) HR0.out (by omega) hb
              rw [F6.out] at this
              exact this⟩
            go_region_held3 (fun w' => (convert 22 9 (.slice A G.length c)).run Try.prog w' = .ok (.string (strOfNums G)) w' ∧ (convert 22 9 (.slice A0 G.length c0)).run Try.prog w' = .ok (.string (strOfNums G)) w')
              (first | exact ⟨str_own HS5.out.row rfl, SP.out _ HS5.out.bel⟩ | exact ⟨str_own HS4.out.row rfl, SP.out _ HS4.out.bel⟩ | exact ⟨s1, s2⟩) (first
              | (go_at_call 21; (with_reducible refine (CH.out _ (by first | exact HS3.out | exact HS3.out.drew)).mono ?_); rintro e w5 ⟨rfl, hs⟩; have HS4 := Aside0.mk hs; clear hs)
              | (go_at_call 22; (with_reducible refine (CL.out _ (by first | exact HS4.out | exact HS3.out | exact HS3.out.drew)).mono ?_); rintro e w6 ⟨rfl, hs⟩; have HS5 := Aside0.mk hs; clear hs))
            all_goals (go_wp2_with fail; exact ⟨⟨i + 1, h2, P2, G, A, c, by omega, by simp, rfl, HS5.out, HI3.out⟩, by simp [intOf]; omega⟩)
        · obtain ⟨j, hj⟩ : ∃ j, i = pcs.length + j := ⟨i - pcs.length, by omega⟩
          obtain ⟨a, ha⟩ : ∃ a : Nat, a + j = text.length := ⟨text.length - j, by omega⟩
          have hp' : ¬ (i : Int) < pcs.length := by omega
          have hij : (i : Int) - pcs.length = j := by omega
          have hnj : (text.length : Int) - j = a := by omega
          have hna : (text.length : Int) - a = j := by omega
          obtain ⟨k, hk⟩ : ∃ k : Nat, (k : Int) = min 1 (j : Int) := ⟨(min 1 (j : Int)).toNat, by omega⟩
          have m2 : ∀ W : World, (Builtin.min_ #[3, 3] 3 #[.int .i64 1, .int .i64 (j : Int)]).run Try.prog W = .ok (.int .i64 (k : Int)) W := fun W => by
            rw [hk]
            exact run_min 1 (j : Int) W
          have hk1 : a + k ≤ text.length := by omega
          have ha1 : a ≤ text.length := by omega
          have HX : Aside0 ((pcs.length < i + 1 → h.known = true ∨ a + k = text.length) ∧ ∀ z ∈ bytesFrom 0 text, (text.length : Int) - (((i + 1 : Nat) : Int) - 1 - pcs.length) ≤ z.1 → (z.1 < h.place ∨ z ∈ flat P) ∨ ((a : Int) ≤ z.1 ∧ z.1 < a + k)) := ⟨fun hh => by
            by_cases hj0 : j = 0
            · right; omega
            · left; exact HI.out.k (by omega), fun z hz hle => by
            have hm := mem_bytes_range hz
            by_cases hza : z.1 = a
            · right; omega
            · left; exact HI.out.c z hz (by omega)⟩
          clear hk hj ha
          go_upto_region 17 with fail
          clear hp' hij hnj hna m2
          obtain ⟨i0, hi0, hz0, hz1, hz2⟩ := info_parts info8
          have hcut := run_cut2 (P := Try.prog) 22 5 .i64 .i64 Try.underlying22 hi0 1 hz1 A0 text.length c0 (a : Int) ((a : Int) + k) (by omega) (by omega) (by have := HC0.out; omega)
          rw [show ((a : Int) + (k : Int)).toNat = a + k by omega, show ((a : Int)).toNat = a by omega, Nat.mul_one, Nat.add_sub_cancel_left] at hcut
          have hck : k ≤ c0 - a := by have := HC0.out; omega
          obtain ⟨A3, hA3⟩ : ∃ A3, (if c0 = a then A0 else A0.map (·.add a)) = A3 := ⟨_, rfl⟩
          have HA3 : Aside0 (0 < k → ∃ ad, A3 = some ad ∧ ad.block < w.heap.size ∧ ∀ i u, ((text.drop a).take k)[i]? = some u → w.cell? (ad.add i) = some (.int .u8 u)) := ⟨fun h0 => by
            obtain ⟨ad0, hA, hlt0, hc⟩ := came_byte HR0.out (by omega)
            rw [if_neg (by have := HC0.out; omega), hA] at hA3
            refine ⟨ad0.add a, hA3.symm, by rw [add_blk]; exact hlt0, fun j u hu => ?_⟩
            rw [Addr.add_add]
            rw [List.getElem?_take] at hu
            split at hu
            · rw [List.getElem?_drop] at hu
              exact hc _ u hu
            · cases hu⟩
          rw [hA3] at hcut
          clear hA3
          have CP := Aside0.mk (bk_put2 HS.out HI.out hn hk1 hck A3 HA3.out HX.out.1 HX.out.2)
          clear hck
          go_upto_region 19 with (go_at_call 19; (with_reducible refine CP.out.mono ?_); rintro e w2 ⟨rfl, h2, P2, hs, hin⟩; have HS2 := Aside0.mk hs; have HI2 := Aside0.mk hin; clear hs hin)
          clear HS HI HX CP HA3 hcut
          by_cases ht : i < takes.length
          · obtain ⟨N, hN⟩ : ∃ N, takes[i]? = some N := ⟨_, List.getElem?_eq_getElem ht⟩
            obtain ⟨ad2, hA2, gt⟩ := came_num HR2.out hN
            subst hA2
            obtain ⟨hN0, hN1⟩ := HLO2.out N (List.mem_of_getElem? hN)
            have et := pw_cell_below HS2.out.bel gt
            clear gt hN
            have CR := Aside0.mk (bk_read2 HS2.out HI2.out hn N hN0 hN1)
            go_upto_region 21 with (go_at_call 20; (with_reducible refine CR.out.mono ?_); rintro e w3 ⟨Ax, cx, out, dn, h3, P3, rfl, ho, hs, hin, hdn, _⟩; have HX3 := Aside0.mk ho; have HS2' := Aside0.mk hs; have HI3 := Aside0.mk hin; have HDN := Aside0.mk hdn; clear ho hs hin hdn et)
            clear HS2 HI2 CR
            have hgl := (HI3.out.facts hn).1
            rw [List.length_append] at hgl
            go_upto_region 22 with (at_builtin; refine wpList_append_row rfl _ _ 22 rfl w.heap.size 5 i0 _ 1 Try.underlying22 hi0 hz0 hz1 hz2 rfl (.slice A got.length c) got.length (got.map (Value.int .u8)) rfl HS2'.out.row (.slice Ax out.length cx) out.length _ (out.map (Value.int .u8)) rfl HX3.out (fun u hu => one_u8 hu) (by unfold maxLen; omega) (by omega) HS2'.out.bel.size ?_; intro v4 w4 q1 q2 q3; have HS3 := Aside0.mk (HS2'.out.more q2 q1 q3); clear q1 q2 q3)
            obtain ⟨A4, c4, hv4, _⟩ := own_form HS3.out.row
            subst hv4
            obtain ⟨G, hG⟩ : ∃ G, got ++ out = G := ⟨_, rfl⟩
            rw [hG] at HS3 HI3 HDN ⊢
            clear hG hgl HX3 HS2'
            cases dn with
            | true =>
              have hgq : (G.length : Int) = text.length := by have := HDN.out rfl; omega
              go_upto_region 24 with fail
              clear hgq
              have hle2 : (G.length : Int) ≤ text.length := by have := (HI3.out.facts hn).1; omega
              obtain ⟨_, f2, f3, f4, f5, f6⟩ := HI3.out.facts hn
              have hcG : G.length ≤ c0 := by have := HC0.out; omega
              have hcG' : (0 : Int) ≤ (G.length : Int) ∧ (G.length : Int) ≤ (c0 : Int) := by omega
              have hgn : decide (text.length < G.length) = false := decide_eq_false (by omega)
              have hwl : IntKind.i64.wrap (h3.limit - (G.length : Int)) = h3.limit - G.length := by rw [IntKind.wrap_i64]; omega
              have hgh : decide (h3.limit - (G.length : Int) < (heldP P3 : Nat)) = false := decide_eq_false (by omega)
              have s1 := str_own HS3.out.drew.row rfl
              have s2 := str_pre (c := c0) (k := G.length) HR0.out (by omega) HS3.out.drew.bel
              rw [f6] at s2
              have F6 := Aside0.mk f6
              clear f6
              have CH := Aside0.mk (fun (W : World) (hs : BkSt w g w.heap.size h3 P3 (.slice A4 G.length c4) G W) => bk_held hs HI3.out.b hn)
              have CL := Aside0.mk (fun (W : World) (hs : BkSt w g w.heap.size h3 P3 (.slice A4 G.length c4) G W) => bk_limit hs)
              have SP : Aside0 (∀ W : World, Below w.heap.size w W → (convert 22 9 (.slice A0 G.length c0)).run Try.prog W = .ok (.string (strOfNums G)) W) := ⟨fun W hb => by
                have := str_pre (c := c0) (k := G.length) HR0.out (by omega) hb
                rw [F6.out] at this
                exact this⟩
              go_region_held3 (fun w' => (convert 22 9 (.slice A4 G.length c4)).run Try.prog w' = .ok (.string (strOfNums G)) w' ∧ (convert 22 9 (.slice A0 G.length c0)).run Try.prog w' = .ok (.string (strOfNums G)) w')
                (first | exact ⟨str_own HS5.out.row rfl, SP.out _ HS5.out.bel⟩ | exact ⟨str_own HS4.out.row rfl, SP.out _ HS4.out.bel⟩ | exact ⟨s1, s2⟩) (first
                | (go_at_call 21; (with_reducible refine (CH.out _ (by first | exact HS3.out | exact HS3.out.drew)).mono ?_); rintro e w5 ⟨rfl, hs⟩; have HS4 := Aside0.mk hs; clear hs)
                | (go_at_call 22; (with_reducible refine (CL.out _ (by first | exact HS4.out | exact HS3.out | exact HS3.out.drew)).mono ?_); rintro e w6 ⟨rfl, hs⟩; have HS5 := Aside0.mk hs; clear hs))
              all_goals (go_wp2_with fail; exact ⟨⟨i + 1, h3, P3, G, A4, c4, by omega, by simp, rfl, HS5.out, HI3.out⟩, by simp [intOf]; omega⟩)
            | false =>
              by_cases hq : G.length = text.length
              · have hgq : (G.length : Int) = text.length := by omega
                go_upto_region 24 with fail
                clear hgq hq
                have hle2 : (G.length : Int) ≤ text.length := by have := (HI3.out.facts hn).1; omega
                obtain ⟨_, f2, f3, f4, f5, f6⟩ := HI3.out.facts hn
                have hcG : G.length ≤ c0 := by have := HC0.out; omega
                have hcG' : (0 : Int) ≤ (G.length : Int) ∧ (G.length : Int) ≤ (c0 : Int) := by omega
                have hgn : decide (text.length < G.length) = false := decide_eq_false (by omega)
                have hwl : IntKind.i64.wrap (h3.limit - (G.length : Int)) = h3.limit - G.length := by rw [IntKind.wrap_i64]; omega
                have hgh : decide (h3.limit - (G.length : Int) < (heldP P3 : Nat)) = false := decide_eq_false (by omega)
                have s1 := str_own HS3.out.drew.row rfl
                have s2 := str_pre (c := c0) (k := G.length) HR0.out (by omega) HS3.out.drew.bel
                rw [f6] at s2
                have F6 := Aside0.mk f6
                clear f6
                have CH := Aside0.mk (fun (W : World) (hs : BkSt w g w.heap.size h3 P3 (.slice A4 G.length c4) G W) => bk_held hs HI3.out.b hn)
                have CL := Aside0.mk (fun (W : World) (hs : BkSt w g w.heap.size h3 P3 (.slice A4 G.length c4) G W) => bk_limit hs)
                have SP : Aside0 (∀ W : World, Below w.heap.size w W → (convert 22 9 (.slice A0 G.length c0)).run Try.prog W = .ok (.string (strOfNums G)) W) := ⟨fun W hb => by
                  have := str_pre (c := c0) (k := G.length) HR0.out (by omega) hb
                  rw [F6.out] at this
                  exact this⟩
                go_region_held3 (fun w' => (convert 22 9 (.slice A4 G.length c4)).run Try.prog w' = .ok (.string (strOfNums G)) w' ∧ (convert 22 9 (.slice A0 G.length c0)).run Try.prog w' = .ok (.string (strOfNums G)) w')
                  (first | exact ⟨str_own HS5.out.row rfl, SP.out _ HS5.out.bel⟩ | exact ⟨str_own HS4.out.row rfl, SP.out _ HS4.out.bel⟩ | exact ⟨s1, s2⟩) (first
                  | (go_at_call 21; (with_reducible refine (CH.out _ (by first | exact HS3.out | exact HS3.out.drew)).mono ?_); rintro e w5 ⟨rfl, hs⟩; have HS4 := Aside0.mk hs; clear hs)
                  | (go_at_call 22; (with_reducible refine (CL.out _ (by first | exact HS4.out | exact HS3.out | exact HS3.out.drew)).mono ?_); rintro e w6 ⟨rfl, hs⟩; have HS5 := Aside0.mk hs; clear hs))
                all_goals (go_wp2_with fail; exact ⟨⟨i + 1, h3, P3, G, A4, c4, by omega, by simp, rfl, HS5.out, HI3.out⟩, by simp [intOf]; omega⟩)
              · have hgq : ((G.length : Int) == (text.length : Int)) = false := beq_eq_false_iff_ne.mpr (by omega)
                go_upto_region 24 with fail
                clear hgq hq
                have hle2 : (G.length : Int) ≤ text.length := by have := (HI3.out.facts hn).1; omega
                obtain ⟨_, f2, f3, f4, f5, f6⟩ := HI3.out.facts hn
                have hcG : G.length ≤ c0 := by have := HC0.out; omega
                have hcG' : (0 : Int) ≤ (G.length : Int) ∧ (G.length : Int) ≤ (c0 : Int) := by omega
                have hgn : decide (text.length < G.length) = false := decide_eq_false (by omega)
                have hwl : IntKind.i64.wrap (h3.limit - (G.length : Int)) = h3.limit - G.length := by rw [IntKind.wrap_i64]; omega
                have hgh : decide (h3.limit - (G.length : Int) < (heldP P3 : Nat)) = false := decide_eq_false (by omega)
                have s1 := str_own HS3.out.drew.row rfl
                have s2 := str_pre (c := c0) (k := G.length) HR0.out (by omega) HS3.out.drew.bel
                rw [f6] at s2
                have F6 := Aside0.mk f6
                clear f6
                have CH := Aside0.mk (fun (W : World) (hs : BkSt w g w.heap.size h3 P3 (.slice A4 G.length c4) G W) => bk_held hs HI3.out.b hn)
                have CL := Aside0.mk (fun (W : World) (hs : BkSt w g w.heap.size h3 P3 (.slice A4 G.length c4) G W) => bk_limit hs)
                have SP : Aside0 (∀ W : World, Below w.heap.size w W → (convert 22 9 (.slice A0 G.length c0)).run Try.prog W = .ok (.string (strOfNums G)) W) := ⟨fun W hb => by
                  have := str_pre (c := c0) (k := G.length) HR0.out (by omega) hb
                  rw [F6.out] at this
                  exact this⟩
                go_region_held3 (fun w' => (convert 22 9 (.slice A4 G.length c4)).run Try.prog w' = .ok (.string (strOfNums G)) w' ∧ (convert 22 9 (.slice A0 G.length c0)).run Try.prog w' = .ok (.string (strOfNums G)) w')
                  (first | exact ⟨str_own HS5.out.row rfl, SP.out _ HS5.out.bel⟩ | exact ⟨str_own HS4.out.row rfl, SP.out _ HS4.out.bel⟩ | exact ⟨s1, s2⟩) (first
                  | (go_at_call 21; (with_reducible refine (CH.out _ (by first | exact HS3.out | exact HS3.out.drew)).mono ?_); rintro e w5 ⟨rfl, hs⟩; have HS4 := Aside0.mk hs; clear hs)
                  | (go_at_call 22; (with_reducible refine (CL.out _ (by first | exact HS4.out | exact HS3.out | exact HS3.out.drew)).mono ?_); rintro e w6 ⟨rfl, hs⟩; have HS5 := Aside0.mk hs; clear hs))
                all_goals (go_wp2_with fail; exact ⟨⟨i + 1, h3, P3, G, A4, c4, by omega, by simp, rfl, HS5.out, HI3.out⟩, by simp [intOf]; omega⟩)
          · have ht' : takes.length ≤ i := by omega
            obtain ⟨G, hG⟩ : ∃ G, got = G := ⟨_, rfl⟩
            skip
            rw [hG] at HS2 HI2 ⊢
            have HS3 := HS2
            have HI3 := HI2
            clear HS2 HI2
            go_upto_region 24 with fail
            skip
            have hle2 : (G.length : Int) ≤ text.length := by have := (HI3.out.facts hn).1; omega
            obtain ⟨_, f2, f3, f4, f5, f6⟩ := HI3.out.facts hn
            have hcG : G.length ≤ c0 := by have := HC0.out; omega
            have hcG' : (0 : Int) ≤ (G.length : Int) ∧ (G.length : Int) ≤ (c0 : Int) := by omega
            have hgn : decide (text.length < G.length) = false := decide_eq_false (by omega)
            have hwl : IntKind.i64.wrap (h2.limit - (G.length : Int)) = h2.limit - G.length := by rw [IntKind.wrap_i64]; omega
            have hgh : decide (h2.limit - (G.length : Int) < (heldP P2 : Nat)) = false := decide_eq_false (by omega)
            have s1 := str_own HS3.out.drew.row rfl
            have s2 := str_pre (c := c0) (k := G.length) HR0.out (by omega) HS3.out.drew.bel
            rw [f6] at s2
            have F6 := Aside0.mk f6
            clear f6
            have CH := Aside0.mk (fun (W : World) (hs : BkSt w g w.heap.size h2 P2 (.slice A G.length c) G W) => bk_held hs HI3.out.b hn)
            have CL := Aside0.mk (fun (W : World) (hs : BkSt w g w.heap.size h2 P2 (.slice A G.length c) G W) => bk_limit hs)
            have SP : Aside0 (∀ W : World, Below w.heap.size w W → (convert 22 9 (.slice A0 G.length c0)).run Try.prog W = .ok (.string (strOfNums G)) W) := ⟨fun W hb => by
              have := str_pre (c := c0) (k := G.length) HR0.out (by omega) hb
              rw [F6.out] at this
              exact this⟩
            go_region_held3 (fun w' => (convert 22 9 (.slice A G.length c)).run Try.prog w' = .ok (.string (strOfNums G)) w' ∧ (convert 22 9 (.slice A0 G.length c0)).run Try.prog w' = .ok (.string (strOfNums G)) w')
              (first | exact ⟨str_own HS5.out.row rfl, SP.out _ HS5.out.bel⟩ | exact ⟨str_own HS4.out.row rfl, SP.out _ HS4.out.bel⟩ | exact ⟨s1, s2⟩) (first
              | (go_at_call 21; (with_reducible refine (CH.out _ (by first | exact HS3.out | exact HS3.out.drew)).mono ?_); rintro e w5 ⟨rfl, hs⟩; have HS4 := Aside0.mk hs; clear hs)
              | (go_at_call 22; (with_reducible refine (CL.out _ (by first | exact HS4.out | exact HS3.out | exact HS3.out.drew)).mono ?_); rintro e w6 ⟨rfl, hs⟩; have HS5 := Aside0.mk hs; clear hs))
            all_goals (go_wp2_with fail; exact ⟨⟨i + 1, h2, P2, G, A, c, by omega, by simp, rfl, HS5.out, HI3.out⟩, by simp [intOf]; omega⟩)
      · have hie : i = pcs.length + text.length + 1 := by omega
        have HIE := Aside0.mk hie
        have hlt' : ¬ (i : Int) ≤ pcs.length + text.length := by omega
        have CR := Aside0.mk (bk_read2 HS.out HI.out hn (text.length : Int) (by omega) (by omega))
        have s0 := Aside0.mk (Kd.C_string (P := Try.prog) (A := A0) (c := c0) Try.underlying22 Try.underlying5 Try.underlying9 HR0.out)
        clear hie
        go_upto_region 27 with (go_at_call 20; (with_reducible refine CR.out.mono ?_); rintro e w3 ⟨Ax, cx, out, dn, h3, P3, rfl, ho, hs, hin, _, hfin⟩; have HX3 := Aside0.mk ho; have HS3 := Aside0.mk hs; have HF := Aside0.mk hfin; clear ho hs hin hfin)
        obtain ⟨rfl, hG⟩ := HF.out (by first | trivial | rfl) (by have := HIE.out; omega)
        have HG := Aside0.mk hG
        have s1 := str_own HS3.out.row rfl
        have s2 := str_own HX3.out rfl
        have s3 := Kd.C_string (P := Try.prog) (A := A0) (c := c0) Try.underlying22 Try.underlying5 Try.underlying9 (Kd.C_below HR0.out HS3.out.bel)
        have BEL := Aside0.mk HS3.out.bel
        have s4 : strOfNums got ++ strOfNums out = strOfNums text := by rw [← hG, str_app]
        have s5 : (strOfNums got).size + (strOfNums out).size ≤ 9223372036854775807 := by rw [str_size, str_size, ← List.length_append, hG]; omega
        clear hG s0 CR hlt' HS3 HX3 HF
        go_wp2_with fail
        go_ret
        exact ⟨rfl, BEL.out⟩
theorem back_row (A0 : Option Addr) (text : List Int) (c0 : Nat) (A1 : Option Addr) (pcs : List (Int × Int)) (c1 : Nat) (A2 : Option Addr) (takes : List Int) (c2 : Nat) (w : World)
    (hcap0 : text.length ≤ c0) (hr0 : Kd.C (Kd.int .u8) w A0 text.length text) (hw0 : text.length * Try.prog.bytesOf 5 ≤ reachBytes)
    (hr1 : Kd.C pieceK w A1 pcs.length pcs) (hok1 : ∀ x ∈ pcs, (Lit.int .i64 x.1).wf = true ∧ (Lit.int .i64 x.2).wf = true) (hw1 : pcs.length * Try.prog.bytesOf 36 ≤ reachBytes)
    (hr2 : Kd.C (Kd.int .i64) w A2 takes.length takes) (hok2 : ∀ x ∈ takes, (Lit.int .i64 x).wf = true) (hw2 : takes.length * Try.prog.bytesOf 3 ≤ reachBytes) :
    Calls Try.prog 4 #[.slice A0 text.length c0, .slice A1 pcs.length c1, .slice A2 takes.length c2] w fun e w' => e = .returned (.bool true) ∧ Below w.heap.size w w' := by
  have e0 : Try.prog.bytesOf 5 = 1 := by kernel_rfl
  have e1 : Try.prog.bytesOf 36 = 16 := by kernel_rfl
  have e2 : Try.prog.bytesOf 3 = 8 := by kernel_rfl
  have e4 : reachBytes = 140737488351232 := by decide +kernel
  rw [e0, e4] at hw0
  rw [e1, e4] at hw1
  rw [e2, e4] at hw2
  have m0 : IntKind.i64.min = -9223372036854775808 := by decide +kernel
  have m1 : IntKind.i64.max = 9223372036854775807 := by decide +kernel
  have hw : ∀ x : Int, (Lit.int .i64 x).wf = true → -9223372036854775808 ≤ x ∧ x ≤ 9223372036854775807 := fun x h => by
    simp [Lit.wf, m0, m1] at h
    exact h
  exact back_walk A0 text c0 A1 pcs c1 A2 takes c2 w hr0 hcap0 (by omega) hr1 (by omega) (fun x hx => ⟨hw _ (hok1 x hx).1, hw _ (hok1 x hx).2⟩) hr2 (by omega) (fun x hx => hw _ (hok2 x hx))
end Go.Proofs.Ytakmcbakogjeeaa.Ib
