/- The document's box (layer 6): put; no condition. -/
import Derived.Test.YtakmcbakogjeeaaIr1
import Derived.Deep.Upon
set_option linter.unusedVariables false
set_option linter.unusedSimpArgs false
namespace Go.Proofs.Ytakmcbakogjeeaa.Ib
open Go Go.RowKit Go.Maps Go.Proofs.Ytakmcbakogjeeaa.Rm Go.Proofs.Ytakmcbakogjeeaa.Rw
open Go.Proofs.YtakmcbakogjeeaaW.PrintWords Go.Proofs.YtakmcbakogjeeaaW.PrintLast Go.Proofs.YtakmcbakogjeeaaW.PrintMore
variable {W W' : World} {b r : Nat} {h : Hd} {A : Option Addr} {c : Nat} {L : List By}
theorem infoB : (Try.prog.info? 157).map (fun i => (i.zero, i.size, i.bytes)) = some (some (.agg #[.int .i64 0, .int .u8 0]), 2, 16) := by kernel_rfl
/-- An append of any number of elements. -/
theorem wr_app (w : World) (base : Nat) (ty : TypeId) (v : Value) (n : Nat) (xs : List Value) (hown : WRow w base 157 2 v n xs)
    (sA : Option Addr) (m sc : Nat) (news : List Value) (hl : news.length = m * 2) (hs : 0 < m → ∃ a, sA = some a ∧ ∀ j u, news[j]? = some u → w.cell? (a.add j) = some u) (h1 : ∀ u ∈ news, u.oneCell' = true)
    (hb : n + m ≤ 1099511627776) (hbase : base ≤ w.heap.size) :
    ∃ v' w', (Builtin.append_ #[54, 54] ty #[v, .slice sA m sc]).run Try.prog w = .ok v' w' ∧ WRow w' base 157 2 v' (n + m) (xs ++ news) ∧ w.grownBy w' v.ownBlock := by
  obtain ⟨i0, hi, hz0, hz1, hz2⟩ := info_parts infoB
  by_cases hm : 0 < m
  · obtain ⟨a, rfl, hc⟩ := hs hm
    obtain ⟨v', w', q1, q2, q3, _⟩ := wr_append (P := Try.prog) w base 54 ty 157 i0 _ 2 16 Try.underlying54 hi hz0 hz1 hz2 rfl (by decide) v n xs hown a m sc news hl hc h1 hm (by unfold maxLen; omega) (by omega) hbase
    exact ⟨v', w', q1, q2, q3⟩
  · have hm0 : m = 0 := by omega
    subst hm0
    have hn0 : news = [] := List.eq_nil_of_length_eq_zero (by omega)
    subst hn0
    obtain ⟨A0, c0, rfl, hc0, _⟩ := wr_slice hown
    refine ⟨.slice A0 n c0, w, ?_, by simpa using hown, World.grownBy.refl _ _⟩
    refine run_append_nothing w 54 54 ty _ i0 Try.underlying54 hi A0 n c0 hc0 (.slice sA 0 sc) ?_
    cases sA with
    | none => exact Src.ofNil w Try.underlying54 sc
    | some a => exact Src.ofSlice w Try.underlying54 a 0 sc [] (by simp) (fun j u hu => by simp at hu) (fun u hu => by cases hu)
theorem wpList_wr_app {W : World} {ops : Array Oper} {rest : List Oper} {o : Oper} {a : Act} {Q : Exit → Act → World → Prop} (hgd : o.guard = none) (s x : Operand)
    (ho : o.op = .call { callee := .builtin .append, args := #[s, x], argTypes := #[54, 54] }) (base : Nat)
    (v : Value) (n : Nat) (xs : List Value) (hs : a.eval s = v) (hown : WRow W base 157 2 v n xs) (sA : Option Addr) (m sc : Nat) (news : List Value) (hx : a.eval x = .slice sA m sc) (hl : news.length = m * 2)
    (hc : 0 < m → ∃ a, sA = some a ∧ ∀ j u, news[j]? = some u → W.cell? (a.add j) = some u) (h1 : ∀ u ∈ news, u.oneCell' = true) (hb : n + m ≤ 1099511627776) (hbase : base ≤ W.heap.size)
    (h : ∀ v' w', WRow w' base 157 2 v' (n + m) (xs ++ news) → W.grownBy w' v.ownBlock → wpList Try.prog ops Q rest (a.put o.dst v') w') :
    wpList Try.prog ops Q (o :: rest) a W := by
  obtain ⟨v', w', hr, h2, h3⟩ := wr_app W base o.type v n xs hown sA m sc news hl hc h1 hb hbase
  refine wpList_plain hgd fun K hK => ?_
  unfold Oper.wp execOp
  simp only [ho, resolve, invoke, builtin, Sem.run_bind, Sem.run_pure, Result.andThen_ok, List.map_toArray, List.map_cons, List.map_nil, hs, hx, hr]
  exact hK _ _ (h v' w' h2 h3)
theorem run_cut1 {P : Program} (t e : TypeId) (kl : IntKind) {i : TypeInfo} (ht : P.underlying t = some (.slice e)) (hi : P.info? e = some i) (size : Nat) (hsz : i.size = size) (A : Option Addr) (n c : Nat) (lo : Int) (h0 : 0 ≤ lo) (h1 : lo ≤ n) (hc : n ≤ c) :
    ∀ W : World, (Instr.slice t (.slice A n c) (some (.int kl lo)) none none).run P W = .ok (.slice (if c = lo.toNat then A else A.map (·.add (lo.toNat * size))) (n - lo.toNat) (c - lo.toNat)) W := by
  intro W
  have e2 : (0 ≤ (n : Int) ∧ (n : Int) ≤ (c : Int)) = True := eq_true ⟨by omega, by omega⟩
  have e3 : (0 ≤ lo ∧ lo ≤ (n : Int)) = True := eq_true ⟨by omega, by omega⟩
  subst hsz
  simp only [Instr.slice, Instr.sliceBounds, Instr.sliceBound, asIntOf, Sem.run_bind, run_underlying ht, Result.andThen_ok, Sem.run_pure, e2, e3, if_true, sizeOf, typeInfo, hi]
  simp [hi, e2, e3]
/-- The first elements, as a source. -/
theorem RBox.src (x : RBox W b r h A c L) (hb : Below W.heap.size W W') : ∀ lo, lo ≤ L.length → ∀ A2, A2 = (if c = lo then A else A.map (·.add (lo * 2))) → ∀ m, lo + m ≤ L.length → 0 < m → ∃ a, A2 = some a ∧ ∀ j u, (bcells ((L.drop lo).take m))[j]? = some u → W'.cell? (a.add j) = some u := by
  intro lo hlo A2 hA2 m hm hm0
  obtain ⟨A', c', he, hc, hA⟩ := wr_slice x.row
  injection he with e1 _ e3
  subst e1; subst e3
  obtain ⟨g, off, rfl⟩ := hA (by omega)
  rw [if_neg (by omega)] at hA2
  refine ⟨_, hA2, fun j u hu => ?_⟩
  rw [← bc_take, ← bc_drop] at hu
  have hj : (bcells L)[lo * 2 + j]? = some u := by
    rw [List.getElem?_take] at hu
    split at hu
    · rwa [List.getElem?_drop] at hu
    · cases hu
  have h1 := (wr_cell x.row _ _ hj).1
  have h2 := pw_cell_below hb h1
  rw [Addr.add_add, add_at]
  exact h2
theorem row_M {w : World} {base k : Nat} {v : Value} {z : By} (h : WRow w base 157 2 v (0 + k + 1 + (L.length - k)) ([] ++ bcells (L.take k) ++ bcells [z] ++ bcells ((L.drop k).take (L.length - k)))) (hk : k ≤ L.length) : WRow w base 157 2 v (L.take k ++ z :: L.drop k).length (bcells (L.take k ++ z :: L.drop k)) := by
  have e1 : (L.take k ++ z :: L.drop k).length = 0 + k + 1 + (L.length - k) := by rw [List.length_append, List.length_cons, List.length_take, List.length_drop]; omega
  have e2 : bcells (L.take k ++ z :: L.drop k) = [] ++ bcells (L.take k) ++ bcells [z] ++ bcells ((L.drop k).take (L.length - k)) := by
    have e3 : (L.drop k).take (L.length - k) = L.drop k := List.take_of_length_le (by rw [List.length_drop]; exact Nat.le_refl _)
    rw [e3, List.nil_append, ← bc_append, ← bc_append, List.append_assoc]
    rfl
  rw [e1, e2]
  exact h
theorem new_byte (w : World) (z : By) : ∀ j u, (bcells [z])[j]? = some u → (w.alloc (.cells #[.int .i64 z.1, .int .u8 z.2] 157)).cell? ((⟨w.heap.size, 0, none⟩ : Addr).add j) = some u := fun j u hu => by
  rw [add_at, Nat.zero_add, cell_of_row _ _ _ _ _ _ (heap_alloc_new w _)]
  rw [bc_cons] at hu
  simpa [bcells] using hu
theorem add0 (A : Option Addr) (c : Nat) : A = (if c = 0 then A else A.map (·.add (0 * 2))) := by
  split
  · rfl
  · cases A with
    | none => rfl
    | some a => obtain ⟨x, y, v⟩ := a; simp [Addr.add]
/-- Where a byte goes. -/
theorem ins_at {z : By} : ∀ (L : List By) (k : Nat), k ≤ L.length → (∀ j y, k ≤ j → L[j]? = some y → z.1 < y.1) → Up L → (k = 0 ∨ ∃ y, L[k - 1]? = some y ∧ y.1 ≤ z.1) →
    (∀ y, 0 < k → L[k - 1]? = some y → y.1 = z.1 → insU z L = L) ∧ ((k = 0 ∨ ∃ y, L[k - 1]? = some y ∧ y.1 < z.1) → insU z L = L.take k ++ z :: L.drop k)
  | [], k, hk, _, _, _ => by
    have : k = 0 := by simpa using hk
    subst this
    exact ⟨fun y h => by omega, fun _ => by simp [insU]⟩
  | y :: r, 0, _, hj, _, _ => by
    have := hj 0 y (Nat.le_refl _) rfl
    exact ⟨fun y h => by omega, fun _ => by rw [insU, if_neg (by omega), if_neg (by omega)]; simp⟩
  | y :: r, k + 1, hk, hj, hu, hl => by
    obtain ⟨u1, u2⟩ := List.pairwise_cons.1 hu
    have hj' : ∀ j y', k ≤ j → r[j]? = some y' → z.1 < y'.1 := fun j y' hkj hy => hj (j + 1) y' (by omega) (by simpa using hy)
    by_cases hk0 : k = 0
    · subst hk0
      obtain ⟨y', hy', hle⟩ : ∃ y', (y :: r)[0]? = some y' ∧ y'.1 ≤ z.1 := by
        rcases hl with h | h
        · omega
        · simpa using h
      have e : y = y' := by simpa using hy'
      subst e
      obtain ⟨i1, i2⟩ := ins_at r 0 (Nat.zero_le _) hj' u2 (.inl rfl)
      refine ⟨fun q _ hq he => ?_, fun hh => ?_⟩
      · have e : y = q := by simpa using hq
        subst e
        rw [insU, if_neg (by omega), if_pos he]
      · obtain ⟨q, hq, hlt⟩ : ∃ q, (y :: r)[0]? = some q ∧ q.1 < z.1 := by
          rcases hh with h | h
          · omega
          · simpa using h
        have e : y = q := by simpa using hq
        subst e
        rw [insU, if_pos hlt, i2 (.inl rfl)]
        simp
    · have hkk : (y :: r)[k + 1 - 1]? = r[k - 1]? := by
        rw [Nat.add_sub_cancel]
        cases k with
        | zero => exact absurd rfl hk0
        | succ k => simp
      have hl' : k = 0 ∨ ∃ y, r[k - 1]? = some y ∧ y.1 ≤ z.1 := by
        rcases hl with h | h
        · omega
        · rw [hkk] at h; exact .inr h
      have hyz : y.1 < z.1 := by
        rcases hl' with h | ⟨q, hq, hle⟩
        · omega
        · have := u1 q (List.mem_of_getElem? hq); omega
      obtain ⟨i1, i2⟩ := ins_at r k (by simpa using hk) hj' u2 hl'
      refine ⟨fun q _ hq he => ?_, fun hh => ?_⟩
      · rw [hkk] at hq
        rw [insU, if_pos hyz, i1 q (by omega) hq he]
      · rw [insU, if_pos hyz, i2 (by
          rcases hh with h | h
          · omega
          · rw [hkk] at h; exact .inr h)]
        simp
/-- A round of put. -/
def RPt (w1 : World) (z : By) (L : List By) (v : Value) (wr : World) : Prop := ∃ (k nd : Nat), wr = w1.drewN nd ∧ v = .int .i64 k ∧ k ≤ L.length ∧ ∀ j y, k ≤ j → L[j]? = some y → z.1 < y.1
/-- What put leaves. -/
def putU (h : Hd) (z : By) (L : List By) : List By := if z.1 < h.place then L else insU z L
/-- The row stored. -/
theorem rput_fin {w1 w7 : World} {A7 : Option Addr} {c7 : Nat} {M : List By} (x : RBox w1 b r h A c L) (hb : Below w1.heap.size w1 w7) (hr : WRow w7 w1.heap.size 157 2 (.slice A7 M.length c7) M.length (bcells M)) (hbw : b ≤ w1.heap.size) :
    RBox (w7.setCell ⟨r, 6, none⟩ (.slice A7 M.length c7)) b r h A7 c7 M ∧ LfR w1 (w7.setCell ⟨r, 6, none⟩ (.slice A7 M.length c7)) b r := by
  have y := x.below hb
  have hlt := x.lt
  refine ⟨⟨x.hg, blk_set y.blk 6 _, wr_lower (wr_move hr (fun k hk => Below.heap_setCell w7 ⟨r, 6, none⟩ _ k (by have := (wr_typed hr k hk).1; simp only; omega))) hbw⟩, (LfR.of_below hb hbw).set x.hg 6 _⟩
set_option maxRecDepth 100000 in
set_option maxHeartbeats 6400000 in
theorem rput_s (x : RBox W b r h A c L) (hup : Up L) (hn : L.length ≤ 1048576) (hbw : b ≤ W.heap.size) (z : By) : Calls Try.prog 79 #[.pointer (some ⟨r, 0, none⟩), .agg #[.int .i64 z.1, .int .u8 z.2]] W fun e w' => e = .returned (.tuple #[]) ∧ ∃ A' c', RBox w' b r h A' c' (putU h z L) ∧ LfR W w' b r := by
  obtain ⟨w1, hw1⟩ : ∃ w1, W.alloc (.cells #[.int .i64 z.1, .int .u8 z.2] 157) = w1 := ⟨_, rfl⟩
  have hx1 : RBox w1 b r h A c L := by rw [← hw1]; exact x.below (below_alloc (Below.refl _ W) _)
  have hb1 : Below W.heap.size W w1 := by rw [← hw1]; exact below_alloc (Below.refl _ W) _
  obtain ⟨xb, hxb⟩ : ∃ xb, W.heap.size = xb := ⟨_, rfl⟩
  have hk0 : w1.heap[xb]? = some (.cells #[.int .i64 z.1, .int .u8 z.2] 157 (0, 0)) := by rw [← hw1, ← hxb]; exact heap_alloc_new W _
  have hxl : xb < w1.heap.size := (Array.getElem?_eq_some_iff.1 hk0).1
  have z0 : w1.cell? ⟨xb, 0, none⟩ = some (.int .i64 z.1) := by rw [cell_of_row w1 xb _ _ _ _ hk0]; rfl
  have z1 : w1.cell? ⟨xb, 1, none⟩ = some (.int .u8 z.2) := by rw [cell_of_row w1 xb _ _ _ _ hk0]; rfl
  have X := Aside0.mk hx1
  have Z0 := Aside0.mk z0
  have Z1 := Aside0.mk z1
  have HB1 := Aside0.mk hb1
  have HUP := Aside0.mk hup
  have LFR : Aside0 (∀ w' A' c' M, RBox w' b r h A' c' M → LfR w1 w' b r → M = putU h z L → ∃ A' c', RBox w' b r h A' c' (putU h z L) ∧ LfR W w' b r) := ⟨fun w' A' c' M h1 h2 h3 => ⟨A', c', by rw [← h3]; exact h1, (LfR.of_below hb1 hbw).then h2⟩⟩
  have BD : Aside0 (∀ p q s, Below w1.heap.size w1 (((w1.drewN p).drewN q).drewN s)) := ⟨fun p q s => by rw [World.drewN_drewN, World.drewN_drewN]; exact bl_drewN _⟩
  have hbw1 : b ≤ w1.heap.size := by have := hb1.size; omega
  obtain ⟨c0, c1, c2, c3, c4, c5, c6⟩ := X.out.cl
  clear x hx1 hb1 hup
  go_enter Try.func79, Try.ntmps79
  go_upto_region 1 with fail
  clear hw1 hxb
  go_wp2_with fail
  go_loopw [4] (fun v wr => RPt w1 z L v wr) (fun v _ => (intOf v).toNat)
  case atStart => exact ⟨L.length, 0, rfl, rfl, Nat.le_refl _, fun j y hj hy => by have := (List.getElem?_eq_some_iff.1 hy).1; omega⟩
  case round =>
    obtain ⟨k, nd, rfl, rfl, hk, hgt⟩ := hrel
    have HGT := Aside0.mk hgt
    clear hgt
    by_cases hk0 : 0 < k
    · obtain ⟨y, hy⟩ : ∃ y, L[k - 1]? = some y := ⟨_, List.getElem?_eq_getElem (by omega)⟩
      obtain ⟨g, off, rfl, hc, e1, _⟩ := X.out.el hy
      have HY := Aside0.mk hy
      have hkc : ((k - 1 : Nat) : Int) = (k : Int) - 1 := by omega
      clear hy
      obtain ⟨k1, hk1⟩ : ∃ k1, k - 1 = k1 := ⟨_, rfl⟩
      rw [hk1] at HY e1 hkc
      have hkk : k = k1 + 1 := by omega
      subst hkk
      clear hk1 hkc
      have hd0 : decide ((0 : Int) < ((k1 + 1 : Nat) : Int)) = true := decide_eq_true (by omega)
      by_cases hyz : z.1 < y.1
      · have hd1 : decide (z.1 < y.1) = true := decide_eq_true hyz
        go_wp2_with fail
        go_quiet (fail)
        go_wp2_with fail
        refine ⟨⟨k1, nd + nq, rfl, by simp, by omega, fun j q hj hq => ?_⟩, by simp [intOf]⟩
        by_cases hjk : j = k1
        · subst hjk
          rw [HY.out] at hq
          injection hq with hq
          subst hq
          exact hyz
        · exact HGT.out j q (by omega) hq
      · have hyz' : y.1 ≤ z.1 := by omega
        have hd1 : decide (z.1 < y.1) = false := decide_eq_false hyz
        have INS := Aside0.mk (ins_at L (k1 + 1) hk HGT.out HUP.out (.inr ⟨y, HY.out, hyz'⟩))
        clear hyz
        by_cases hzp : z.1 < h.place
        · have hd2 : decide (z.1 < h.place) = true := decide_eq_true hzp
          go_wp2_with fail
          go_quiet (fail)
          go_upto_region 4 with fail
          go_quiet (fail)
          go_wp2_with fail
          refine bodyPost_ret (results_none rfl _ _ _) rfl ?_
          exact ⟨rfl, LFR.out _ _ _ L (X.out.below (BD.out _ _ _)) (LfR.of_below (BD.out _ _ _) hbw1) (by unfold putU; rw [if_pos hzp])⟩
        · have hd2 : decide (z.1 < h.place) = false := decide_eq_false hzp
          by_cases heq : y.1 = z.1
          · have hd3 : (y.1 == z.1) = true := by simp [heq]
            have FIN : Aside0 (L = putU h z L) := ⟨by unfold putU; rw [if_neg hzp, INS.out.1 y (by omega) HY.out heq]⟩
            rw [heq] at e1 hd1
            go_wp2_with fail
            go_quiet (fail)
            go_upto_region 4 with fail
            go_quiet (fail)
            go_wp2_with fail
            refine bodyPost_ret (results_none rfl _ _ _) rfl ?_
            exact ⟨rfl, LFR.out _ _ _ L (X.out.below (BD.out _ _ _)) (LfR.of_below (BD.out _ _ _) hbw1) FIN.out⟩
          · have hd3 : (y.1 == z.1) = false := by simp [heq]
            have FIN : Aside0 (L.take (k1 + 1) ++ z :: L.drop (k1 + 1) = putU h z L) := ⟨by unfold putU; rw [if_neg hzp, INS.out.2 (.inr ⟨y, HY.out, by omega⟩)]⟩
            clear heq
            go_wp2_with fail
            go_quiet (fail)
            revert nq
            intro nq0
            go_upto_region 4 with fail
            go_quiet (fail)
            go_upto_region 5 with fail
            have hb2 := BD.out nd nq0 nq
            obtain ⟨w2, hw2⟩ : ∃ w2, ((w1.drewN nd).drewN nq0).drewN nq = w2 := ⟨_, rfl⟩
            rw [hw2] at hb2 ⊢
            clear hw2 c0 c1 c2 c3 c4 c5 c6 z0 z1
            have HB2 := Aside0.mk (hb2.alloc hb2.size (.cells #[] 157))
            have R0 : Aside0 (WRow (w2.alloc (.cells #[] 157)) w1.heap.size 157 2 (.slice (some ⟨w2.heap.size, 0, none⟩) 0 0) 0 []) := ⟨rfl, .inl ⟨rfl, _, rfl, fun a ha => by injection ha with ha; subst ha; exact ⟨hb2.size, _, heap_alloc_new w2 _⟩⟩⟩
            clear hb2
            obtain ⟨c0, c1, c2, c3, c4, c5, c6⟩ := (X.out.below HB2.out).cl
            have hnc := (wr_room X.out.row).2.1
            have hkc : (0 : Int) ≤ ((k1 + 1 : Nat) : Int) ∧ ((k1 + 1 : Nat) : Int) ≤ (c : Int) := by omega
            obtain ⟨i0, hi0, _, hz1, _⟩ := info_parts infoB
            have hcut := run_cut1 (P := Try.prog) 54 157 .i64 Try.underlying54 hi0 2 hz1 (some ⟨g, off, none⟩) L.length c (((k1 + 1 : Nat) : Int)) (by omega) (by omega) hnc
            rw [show (((k1 + 1 : Nat) : Int)).toNat = k1 + 1 by omega] at hcut
            push_cast at hcut
            obtain ⟨A3, hA3⟩ : ∃ A3, (if c = k1 + 1 then (some ⟨g, off, none⟩) else (some ⟨g, off, none⟩ : Option Addr).map (·.add ((k1 + 1) * 2))) = A3 := ⟨_, rfl⟩
            rw [hA3] at hcut
            have S1 := Aside0.mk (fun W' (hb : Below w1.heap.size w1 W') => X.out.src hb 0 (Nat.zero_le _) (some ⟨g, off, none⟩) (add0 _ _) (k1 + 1) (by omega))
            have S3 := Aside0.mk (fun W' (hb : Below w1.heap.size w1 W') => X.out.src hb (k1 + 1) (by omega) A3 hA3.symm (L.length - (k1 + 1)) (by omega))
            rw [List.drop_zero] at S1
            have HL1 : Aside0 ((bcells (L.take (k1 + 1))).length = (k1 + 1) * 2) := ⟨by rw [bc_len, List.length_take]; omega⟩
            have HL3 : Aside0 ((bcells ((L.drop (k1 + 1)).take (L.length - (k1 + 1)))).length = (L.length - (k1 + 1)) * 2) := ⟨by rw [bc_len, List.length_take, List.length_drop]; omega⟩
            obtain ⟨M, hM⟩ : ∃ M, L.take (k1 + 1) ++ z :: L.drop (k1 + 1) = M := ⟨_, rfl⟩
            rw [hM] at FIN
            have HM := Aside0.mk hM
            clear hi0 hA3 hM
            go_wp2_with (first
              | (at_builtin; refine wpList_wr_app rfl _ _ rfl w1.heap.size (.slice (some ⟨w2.heap.size, 0, none⟩) 0 0) 0 [] rfl R0.out (some ⟨g, off, none⟩) (k1 + 1) c (bcells (L.take (k1 + 1))) rfl HL1.out (S1.out _ HB2.out) bc_one (by omega) HB2.out.size ?_; intro v5 w5 h1 h2; have R5 := Aside0.mk h1; have HB5 := Aside0.mk (HB2.out.grown h2 HB2.out.size (fun k hk => (wr_typed R0.out k hk).1)); have z0 := pw_cell_below HB5.out Z0.out; have z1 := pw_cell_below HB5.out Z1.out; clear h1 h2 c0 c1 c2 c3 c4 c5 c6)
              | (at_builtin; refine wpList_wr_app rfl _ _ rfl w1.heap.size v5 (0 + (k1 + 1)) ([] ++ bcells (L.take (k1 + 1))) rfl (wr_move R5.out (fun k hk => Below.heap_alloc w5 _ k (wr_lt R5.out k hk))) (some ⟨w5.heap.size, 0, none⟩) 1 1 (bcells [z]) rfl rfl (fun _ => ⟨_, rfl, new_byte w5 z⟩) bc_one (by omega) (by rw [World.size_alloc]; have := HB5.out.size; omega) ?_; intro v6 w6 h1 h2; have R6 := Aside0.mk h1; have HB6 := Aside0.mk ((HB5.out.alloc HB5.out.size _).grown h2 (by rw [World.size_alloc]; have := HB5.out.size; omega) (fun k hk => (wr_typed R5.out k hk).1)); clear h1 h2 z0 z1; obtain ⟨c0, c1, c2, c3, c4, c5, c6⟩ := (X.out.below HB6.out).cl)
              | (at_builtin; refine wpList_wr_app rfl _ _ rfl w1.heap.size v6 (0 + (k1 + 1) + 1) ([] ++ bcells (L.take (k1 + 1)) ++ bcells [z]) rfl R6.out A3 (L.length - (k1 + 1)) (c - (k1 + 1)) (bcells ((L.drop (k1 + 1)).take (L.length - (k1 + 1)))) rfl HL3.out (S3.out _ HB6.out) bc_one (by omega) HB6.out.size ?_; intro v7 w7 h1 h2; have R7 : Aside0 (WRow w7 w1.heap.size 157 2 v7 M.length (bcells M)) := ⟨by have := row_M h1 hk; rw [HM.out] at this; exact this⟩; have HB7 := Aside0.mk (HB6.out.grown h2 HB6.out.size (fun k hk => (wr_typed R6.out k hk).1)); clear h1 h2 c0 c1 c2 c3 c4 c5 c6; obtain ⟨c0, c1, c2, c3, c4, c5, c6⟩ := (X.out.below HB7.out).cl; have f6 := (X.out.below HB7.out).free 6; obtain ⟨A7, c7, hv7, _⟩ := wr_slice R7.out; subst hv7))
            go_end0
            have FX := rput_fin X.out HB7.out R7.out hbw1
            exact ⟨rfl, LFR.out _ A7 c7 _ FX.1 FX.2 FIN.out⟩
    · have hk1 : k = 0 := by omega
      subst hk1
      have hd0 : decide ((0 : Int) < ((0 : Nat) : Int)) = false := decide_eq_false (by omega)
      have INS := Aside0.mk (ins_at L 0 hk HGT.out HUP.out (.inl rfl))
      by_cases hzp : z.1 < h.place
      · have hd2 : decide (z.1 < h.place) = true := decide_eq_true hzp
        go_wp2_with fail
        go_quiet (fail)
        go_upto_region 4 with fail
        go_quiet (fail)
        go_wp2_with fail
        refine bodyPost_ret (results_none rfl _ _ _) rfl ?_
        exact ⟨rfl, LFR.out _ _ _ L (X.out.below (BD.out _ _ _)) (LfR.of_below (BD.out _ _ _) hbw1) (by unfold putU; rw [if_pos hzp])⟩
      · have hd2 : decide (z.1 < h.place) = false := decide_eq_false hzp
        have FIN : Aside0 (L.take 0 ++ z :: L.drop 0 = putU h z L) := ⟨by unfold putU; rw [if_neg hzp, INS.out.2 (.inl rfl)]⟩
        go_wp2_with fail
        go_quiet (fail)
        revert nq
        intro nq0
        go_upto_region 4 with fail
        go_quiet (fail)
        go_upto_region 5 with fail
        have hb2 := BD.out nd nq0 nq
        obtain ⟨w2, hw2⟩ : ∃ w2, ((w1.drewN nd).drewN nq0).drewN nq = w2 := ⟨_, rfl⟩
        rw [hw2] at hb2 ⊢
        clear hw2 c0 c1 c2 c3 c4 c5 c6 z0 z1
        have HB2 := Aside0.mk (hb2.alloc hb2.size (.cells #[] 157))
        have R0 : Aside0 (WRow (w2.alloc (.cells #[] 157)) w1.heap.size 157 2 (.slice (some ⟨w2.heap.size, 0, none⟩) 0 0) 0 []) := ⟨rfl, .inl ⟨rfl, _, rfl, fun a ha => by injection ha with ha; subst ha; exact ⟨hb2.size, _, heap_alloc_new w2 _⟩⟩⟩
        clear hb2
        obtain ⟨c0, c1, c2, c3, c4, c5, c6⟩ := (X.out.below HB2.out).cl
        have hnc := (wr_room X.out.row).2.1
        have hkc : (0 : Int) ≤ ((0 : Nat) : Int) ∧ ((0 : Nat) : Int) ≤ (c : Int) := by omega
        obtain ⟨i0, hi0, _, hz1, _⟩ := info_parts infoB
        have hcut := run_cut1 (P := Try.prog) 54 157 .i64 Try.underlying54 hi0 2 hz1 (A) L.length c (((0 : Nat) : Int)) (by omega) (by omega) hnc
        rw [show (((0 : Nat) : Int)).toNat = 0 by omega] at hcut
        push_cast at hcut
        obtain ⟨A3, hA3⟩ : ∃ A3, (if c = 0 then (A) else (A : Option Addr).map (·.add ((0) * 2))) = A3 := ⟨_, rfl⟩
        rw [hA3] at hcut
        have S1 := Aside0.mk (fun W' (hb : Below w1.heap.size w1 W') => X.out.src hb 0 (Nat.zero_le _) (A) (add0 _ _) (0) (by omega))
        have S3 := Aside0.mk (fun W' (hb : Below w1.heap.size w1 W') => X.out.src hb (0) (by omega) A3 hA3.symm (L.length - (0)) (by omega))
        rw [List.drop_zero] at S1
        have HL1 : Aside0 ((bcells (L.take (0))).length = (0) * 2) := ⟨by rw [bc_len, List.length_take]; omega⟩
        have HL3 : Aside0 ((bcells ((L.drop (0)).take (L.length - (0)))).length = (L.length - (0)) * 2) := ⟨by rw [bc_len, List.length_take, List.length_drop]; omega⟩
        obtain ⟨M, hM⟩ : ∃ M, L.take (0) ++ z :: L.drop (0) = M := ⟨_, rfl⟩
        rw [hM] at FIN
        have HM := Aside0.mk hM
        clear hi0 hA3 hM
        go_wp2_with (first
          | (at_builtin; refine wpList_wr_app rfl _ _ rfl w1.heap.size (.slice (some ⟨w2.heap.size, 0, none⟩) 0 0) 0 [] rfl R0.out (A) (0) c (bcells (L.take (0))) rfl HL1.out (S1.out _ HB2.out) bc_one (by omega) HB2.out.size ?_; intro v5 w5 h1 h2; have R5 := Aside0.mk h1; have HB5 := Aside0.mk (HB2.out.grown h2 HB2.out.size (fun k hk => (wr_typed R0.out k hk).1)); have z0 := pw_cell_below HB5.out Z0.out; have z1 := pw_cell_below HB5.out Z1.out; clear h1 h2 c0 c1 c2 c3 c4 c5 c6)
          | (at_builtin; refine wpList_wr_app rfl _ _ rfl w1.heap.size v5 (0 + (0)) ([] ++ bcells (L.take (0))) rfl (wr_move R5.out (fun k hk => Below.heap_alloc w5 _ k (wr_lt R5.out k hk))) (some ⟨w5.heap.size, 0, none⟩) 1 1 (bcells [z]) rfl rfl (fun _ => ⟨_, rfl, new_byte w5 z⟩) bc_one (by omega) (by rw [World.size_alloc]; have := HB5.out.size; omega) ?_; intro v6 w6 h1 h2; have R6 := Aside0.mk h1; have HB6 := Aside0.mk ((HB5.out.alloc HB5.out.size _).grown h2 (by rw [World.size_alloc]; have := HB5.out.size; omega) (fun k hk => (wr_typed R5.out k hk).1)); clear h1 h2 z0 z1; obtain ⟨c0, c1, c2, c3, c4, c5, c6⟩ := (X.out.below HB6.out).cl)
          | (at_builtin; refine wpList_wr_app rfl _ _ rfl w1.heap.size v6 (0 + (0) + 1) ([] ++ bcells (L.take (0)) ++ bcells [z]) rfl R6.out A3 (L.length - (0)) (c - (0)) (bcells ((L.drop (0)).take (L.length - (0)))) rfl HL3.out (S3.out _ HB6.out) bc_one (by omega) HB6.out.size ?_; intro v7 w7 h1 h2; have R7 : Aside0 (WRow w7 w1.heap.size 157 2 v7 M.length (bcells M)) := ⟨by have := row_M h1 hk; rw [HM.out] at this; exact this⟩; have HB7 := Aside0.mk (HB6.out.grown h2 HB6.out.size (fun k hk => (wr_typed R6.out k hk).1)); clear h1 h2 c0 c1 c2 c3 c4 c5 c6; obtain ⟨c0, c1, c2, c3, c4, c5, c6⟩ := (X.out.below HB7.out).cl; have f6 := (X.out.below HB7.out).free 6; obtain ⟨A7, c7, hv7, _⟩ := wr_slice R7.out; subst hv7))
        go_end0
        have FX := rput_fin X.out HB7.out R7.out hbw1
        exact ⟨rfl, LFR.out _ A7 c7 _ FX.1 FX.2 FIN.out⟩
end Go.Proofs.Ytakmcbakogjeeaa.Ib
