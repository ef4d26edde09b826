/- Paths (layer 24): a path's numbers set; Came, Sent, Told; no condition. -/
import Derived.Test.YtakmcbakogjeeaaPt1
import Derived.Test.YtakmcbakogjeeaaIb2
set_option linter.unusedVariables false
set_option linter.unusedSimpArgs false
namespace Go.Proofs.Ytakmcbakogjeeaa.Pt
open Go Go.RowKit Go.Maps Go.Proofs.Ytakmcbakogjeeaa.Rm
open Go.Proofs.YtakmcbakogjeeaaW.PrintWords Go.Proofs.YtakmcbakogjeeaaW.PrintLast Go.Proofs.YtakmcbakogjeeaaW.PrintMore
variable {W W' : World} {b p m n : Nat} {used : Int} {K A B : List Ent} {x x' : Ent}
theorem run_min2 (x y : Int) (W : World) : (Builtin.min_ #[3, 3] 3 #[.int .i64 x, .int .i64 y]).run Try.prog W = .ok (.int .i64 (min x y)) W := by
  have h : (if y < x then y else x) = min x y := by split <;> omega
  rw [← h]
  simp [Builtin.min_, Builtin.min2, go_sem]
theorem ty_ne {i j : Nat} {c1 c2 : Array Value} {t1 t2 : TypeId} (h1 : W.heap[i]? = some (.cells c1 t1 (0, 0))) (h2 : W.heap[j]? = some (.cells c2 t2 (0, 0))) (hn : t1 ≠ t2) : i ≠ j := by
  rintro rfl
  rw [h1] at h2
  injection h2 with h2
  injection h2 with _ h2
  exact hn h2
theorem map_ne {k n' : Nat} {kv' : KV} (hm : W.ownsMap Try.prog 3 rawElem m n' (mapD kv')) {cs : Array Value} {t : TypeId} {z : Nat × Nat} (hk : W.heap[k]? = some (.cells cs t z)) : m ≠ k := by
  rintro rfl
  obtain ⟨es, clock, hb, _⟩ := hm
  rw [hb] at hk
  cases hk
/-- What a change of the paths leaves of all else: what lies below, and every row that is no path's and no challenge's. -/
structure Lf (W W' : World) (b : Nat) : Prop where
  bel : Below b W W'
  kt : ∀ (k : Nat) (cs : Array Value) (t : TypeId), W.heap[k]? = some (.cells cs t (0, 0)) → t ≠ 172 → t ≠ 176 → W'.heap[k]? = W.heap[k]?
theorem Lf.trans {W2 : World} (h1 : Lf W W' b) (h2 : Lf W' W2 b) : Lf W W2 b := ⟨h1.bel.trans h2.bel, fun k cs t hk a1 a2 => by
  have e := h1.kt k cs t hk a1 a2
  exact (h2.kt k cs t (e.trans hk) a1 a2).trans e⟩
theorem Lf.of_below (h : Below W.heap.size W W') (hb : b ≤ W.heap.size) : Lf W W' b := ⟨h.mono hb, fun k cs t hk _ _ => h.block k (Array.getElem?_eq_some_iff.1 hk).1⟩
theorem Lf.refl (b : Nat) (W : World) : Lf W W b := ⟨Below.refl _ _, fun _ _ _ _ _ _ => rfl⟩
/-- Parts of a list of pairs apart. -/
theorem apart_mid {R : Ent → Ent → Prop} (hs : ∀ u v, R u v → R v u) (h : (A ++ x :: B).Pairwise R) : (∀ y ∈ A, R y x) ∧ (∀ y ∈ B, R y x) := by
  obtain ⟨h1, h2, h3⟩ := List.pairwise_append.1 h
  exact ⟨fun y hy => h3 y hy x List.mem_cons_self, fun y hy => hs _ _ ((List.pairwise_cons.1 h2).1 y hy)⟩
theorem apart_swap {R : Ent → Ent → Prop} (h : (A ++ x :: B).Pairwise R) (hl : ∀ y ∈ A, R y x → R y x') (hr : ∀ y ∈ B, R x y → R x' y) : (A ++ x' :: B).Pairwise R := by
  obtain ⟨h1, h2, h3⟩ := List.pairwise_append.1 h
  obtain ⟨h4, h5⟩ := List.pairwise_cons.1 h2
  refine List.pairwise_append.2 ⟨h1, List.pairwise_cons.2 ⟨fun y hy => hr y hy (h4 y hy), h5⟩, fun u hu v hv => ?_⟩
  rcases List.mem_cons.1 hv with e | hv
  · rw [e]; exact hl u hu (h3 u hu x List.mem_cons_self)
  · exact h3 u hu v (List.mem_cons_of_mem _ hv)
/-- Paths apart. -/
def Ap (x y : Ent) : Prop := x.g ≠ y.g ∧ ∀ k, x.v.ownBlock = some k → y.v.ownBlock ≠ some k
theorem ap_symm (x y : Ent) (h : Ap x y) : Ap y x := ⟨fun e => h.1 e.symm, fun k h1 h2 => h.2 k h2 h1⟩
/-- A number of a path set. -/
theorem PtAt.set (h : PtAt W b p m n used (A ++ x :: B)) (i : Nat) (u : Value) (x' : Ent) (ha : x'.a = x.a) (hg : x'.g = x.g) (hv : x'.v = x.v) (ho : x'.op = x.op) (hc : x.cells.setIfInBounds i u = x'.cells)
    (c0 : 0 ≤ x'.came) (c1 : x'.came ≤ 1125899906842624) (s0 : 0 ≤ x'.sent) (s1 : x'.sent ≤ 1125899906842624) :
    PtAt (W.setCell ⟨x.g, i, none⟩ u) b p m n used (A ++ x' :: B) ∧ Lf W (W.setCell ⟨x.g, i, none⟩ u) b := by
  have hx := h.one x (by simp)
  have hf : ∀ k, k ≠ x.g → (W.setCell ⟨x.g, i, none⟩ u).heap[k]? = W.heap[k]? := fun k hk => Below.heap_setCell W ⟨x.g, i, none⟩ u k hk
  have hkv : kvs (A ++ x' :: B) = kvs (A ++ x :: B) := by simp [kvs, ha, hg]
  have row : ∀ y, OneAt W b y → (W.setCell ⟨x.g, i, none⟩ u).ownsRow b 176 9 y.v y.op.length (ocells y.op) := fun y hy => own_move hy.row (fun k hk => hf k (by
    obtain ⟨_, hc⟩ := own_typed hy.row k hk
    exact ty_ne hc hx.blk (by decide)))
  obtain ⟨n1, n2⟩ := apart_mid (R := Ap) ap_symm h.ng
  refine ⟨⟨h.hp, h.hm, (hf p (ty_ne h.blk hx.blk (by decide))).trans h.blk, ?_, fun y hy => ?_, ?_⟩, ⟨(Below.refl b W).setCell (p := ⟨x.g, i, none⟩) hx.hg u, fun k cs t hk a1 _ => hf k (ty_ne hk hx.blk a1)⟩⟩
  · rw [hkv]
    exact h.mp.setCell (a := ⟨x.g, i, none⟩) (map_ne h.mp hx.blk) u
  · have far : y ∈ A ∨ y ∈ B → OneAt (W.setCell ⟨x.g, i, none⟩ u) b y := fun hy => by
      have hy1 := h.one y (by rcases hy with hy | hy <;> simp [hy])
      have hne : y.g ≠ x.g := by
        rcases hy with hy | hy
        · exact (n1 y hy).1
        · exact (n2 y hy).1
      exact ⟨hy1.hg, (hf y.g hne).trans hy1.blk, row y hy1, hy1.ok, hy1.c0, hy1.c1, hy1.s0, hy1.s1⟩
    rcases List.mem_append.1 hy with hy | hy
    · exact far (.inl hy)
    · rcases List.mem_cons.1 hy with e | hy
      · subst e
        refine ⟨by rw [hg]; exact hx.hg, ?_, by rw [hv, ho]; exact row x hx, by rw [ho]; exact hx.ok, c0, c1, s0, s1⟩
        rw [hg, ← hc]
        exact blk_set hx.blk i u
      · exact far (.inr hy)
  · exact apart_swap (R := Ap) h.ng (fun y _ hr => ⟨by rw [hg]; exact hr.1, by rw [hv]; exact hr.2⟩) (fun y _ hr => ⟨by rw [hg]; exact hr.1, by rw [hv]; exact hr.2⟩)
theorem lies_s (n : Int) (W : World) : Calls Try.prog 94 #[.int .i64 n] W fun e w' => e = .returned (.bool (decide (0 ≤ n) && decide (n ≤ 1125899906842624))) ∧ W = w' := by
  by_cases h0 : 0 ≤ n
  · go_enter Try.func94, Try.ntmps94
    go_wp2
    go_ret
    exact ⟨by simp [h0], rfl⟩
  · have h1 : n < 0 := by omega
    go_enter Try.func94, Try.ntmps94
    go_wp2
    go_ret
    exact ⟨by simp [h0] <;> omega, rfl⟩
/-- Bytes came from a known address. -/
theorem came_hit (h : PtAt W b p m n used (A ++ x :: B)) (hwf : (Lit.int .i64 x.a).wf = true) (k : Int) (hk0 : 0 ≤ k) (hk1 : k ≤ 1125899906842624) :
    Calls Try.prog 48 #[.pointer (some ⟨p, 0, none⟩), .int .i64 x.a, .int .i64 k] W fun e w' => e = .returned (.tuple #[.bool false, .int .i64 0]) ∧ PtAt w' b p m n used (A ++ { x with came := min 1125899906842624 (x.came + k) } :: B) ∧ Lf W w' b := by
  have hx := h.one x (by simp)
  have CA := Aside0.mk (at_hit h (x := x) (by simp) hwf)
  have CL := Aside0.mk (lies_s k W)
  rw [show (decide (0 ≤ k) && decide (k ≤ 1125899906842624)) = true by simp [hk0, hk1]] at CL
  have SET := Aside0.mk (fun u => h.set 1 u)
  obtain ⟨q0, q1, q2, q3⟩ := hx.c
  have f1 := hx.free 1
  have m1 := run_min2 1125899906842624 (x.came + k)
  have hc0 := hx.c0
  have hc1 := hx.c1
  have hs0 := hx.s0
  have hs1 := hx.s1
  obtain ⟨c', hc'⟩ : ∃ c', min 1125899906842624 (x.came + k) = c' := ⟨_, rfl⟩
  have hb0 : 0 ≤ c' ∧ c' ≤ 1125899906842624 := by omega
  rw [hc'] at m1 ⊢
  have S2 := Aside0.mk (SET.out (.int .i64 c') { x with came := c' } rfl rfl rfl rfl rfl hb0.1 hb0.2 hs0 hs1)
  clear h hx hwf SET hc'
  obtain ⟨xa, xg, xv, xl, xc, xs, xo⟩ := x
  simp only at *
  go_enter Try.func48, Try.ntmps48
  go_wp2_with (first
    | (go_at_call 93; (with_reducible refine CA.out.mono ?_); rintro e w' ⟨rfl, rfl⟩)
    | (go_at_call 94; (with_reducible refine CL.out.mono ?_); rintro e w' ⟨rfl, rfl⟩))
  go_ret2
  exact ⟨rfl, S2.out⟩
/-- Bytes are sent to a known address. -/
def sentV (x : Ent) (k : Int) : Int := if k > mayV x then 30 else 0
def sentE (x : Ent) (k : Int) : Ent := if k > mayV x then x else { x with sent := min 1125899906842624 (x.sent + k) }
theorem sent_hit (h : PtAt W b p m n used (A ++ x :: B)) (hbw : b ≤ W.heap.size) (hwf : (Lit.int .i64 x.a).wf = true) (k : Int) (hk0 : 0 ≤ k) (hk1 : k ≤ 1125899906842624) :
    Calls Try.prog 49 #[.pointer (some ⟨p, 0, none⟩), .int .i64 x.a, .int .i64 k] W fun e w' => e = .returned (.int .i64 (sentV x k)) ∧ PtAt w' b p m n used (A ++ sentE x k :: B) ∧ Lf W w' b := by
  have hx := h.one x (by simp)
  have CA := Aside0.mk (at_hit h (x := x) (by simp) hwf)
  have CL := Aside0.mk (lies_s k W)
  rw [show (decide (0 ≤ k) && decide (k ≤ 1125899906842624)) = true by simp [hk0, hk1]] at CL
  have CM := Aside0.mk (may_s h (x := x) (by simp) hwf)
  have SET := Aside0.mk (fun W (h : PtAt W b p m n used (A ++ x :: B)) u => h.set 2 u)
  obtain ⟨q0, q1, q2, q3⟩ := hx.c
  have f2 := hx.free 2
  have m1 := run_min2 1125899906842624 (x.sent + k)
  have hc0 := hx.c0
  have hc1 := hx.c1
  have hs0 := hx.s0
  have hs1 := hx.s1
  obtain ⟨c', hc'⟩ : ∃ c', min 1125899906842624 (x.sent + k) = c' := ⟨_, rfl⟩
  have hb0 : 0 ≤ c' ∧ c' ≤ 1125899906842624 := by omega
  have HSE := Aside0.mk (show sentE x k = if k > mayV x then x else { x with sent := c' } by unfold sentE; rw [hc'])
  have HSV := Aside0.mk (show sentV x k = if k > mayV x then 30 else 0 from rfl)
  rw [hc'] at m1
  have S2 := Aside0.mk (fun W h => SET.out W h (.int .i64 c') { x with sent := c' } rfl rfl rfl rfl rfl hc0 hc1 hb0.1 hb0.2)
  have H := Aside0.mk h
  obtain ⟨mv, hmv⟩ : ∃ mv, mayV x = mv := ⟨_, rfl⟩
  rw [hmv] at CM HSE HSV
  rw [HSE.out, HSV.out]
  clear h hx hwf SET hc' hmv HSE HSV
  obtain ⟨xa, xg, xv, xl, xc, xs, xo⟩ := x
  simp only at *
  by_cases hm : k > mv
  · rw [if_pos hm, if_pos hm]
    have hm' : mv < k := hm
    clear hm
    go_enter Try.func49, Try.ntmps49
    go_wp2_with (first
      | (go_at_call 93; (with_reducible refine CA.out.mono ?_); rintro e w' ⟨rfl, rfl⟩)
      | (go_at_call 94; (with_reducible refine CL.out.mono ?_); rintro e w' ⟨rfl, rfl⟩)
      | (go_at_call 47; (with_reducible refine CM.out.mono ?_); rintro e w' ⟨rfl, j, rfl⟩))
    go_ret
    exact ⟨rfl, H.out.below (Ib.bl_drewN j), Lf.of_below (Ib.bl_drewN j) hbw⟩
  · rw [if_neg hm, if_neg hm]
    have hm' : k ≤ mv := by omega
    clear hm
    go_enter Try.func49, Try.ntmps49
    go_wp2_with (first
      | (go_at_call 93; (with_reducible refine CA.out.mono ?_); rintro e w' ⟨rfl, rfl⟩)
      | (go_at_call 94; (with_reducible refine CL.out.mono ?_); rintro e w' ⟨rfl, rfl⟩)
      | (go_at_call 47; (with_reducible refine CM.out.mono ?_); rintro e w' ⟨rfl, j, rfl⟩))
    go_ret
    obtain ⟨s1, s2⟩ := S2.out _ (H.out.below (Ib.bl_drewN j))
    exact ⟨rfl, s1, (Lf.of_below (Ib.bl_drewN j) hbw).trans s2⟩
theorem sent_miss (h : PtAt W b p m n used K) {a : Int} (hn : ∀ x ∈ K, x.a ≠ a) (hwf : (Lit.int .i64 a).wf = true) (k : Int) :
    Calls Try.prog 49 #[.pointer (some ⟨p, 0, none⟩), .int .i64 a, .int .i64 k] W fun e w' => e = .returned (.int .i64 15) ∧ W = w' := by
  have CA := Aside0.mk (at_miss h hn hwf)
  clear h hn hwf
  go_enter Try.func49, Try.ntmps49
  go_wp2_with (go_at_call 93; (with_reducible refine CA.out.mono ?_); rintro e w' ⟨rfl, rfl⟩)
  go_ret
  exact ⟨rfl, rfl⟩
theorem may_miss (h : PtAt W b p m n used K) {a : Int} (hn : ∀ x ∈ K, x.a ≠ a) (hwf : (Lit.int .i64 a).wf = true) :
    Calls Try.prog 47 #[.pointer (some ⟨p, 0, none⟩), .int .i64 a] W fun e w' => e = .returned (.int .i64 0) ∧ W = w' := by
  have CA := Aside0.mk (at_miss h hn hwf)
  clear h hn hwf
  go_enter Try.func47, Try.ntmps47
  go_wp2_with (go_at_call 93; (with_reducible refine CA.out.mono ?_); rintro e w' ⟨rfl, rfl⟩)
  go_ret
  exact ⟨rfl, rfl⟩
theorem told_s (h : PtAt W b p m n used K) (hx : x ∈ K) (hxa : x.a = used) (hwf : (Lit.int .i64 used).wf = true) :
    Calls Try.prog 52 #[.pointer (some ⟨p, 0, none⟩)] W fun e w' => e = .returned (.tuple #[.int .i64 used, .bool x.valid, .int .i64 K.length]) ∧ ∃ j, w' = W.drewN j := by
  obtain ⟨c0, c1⟩ := h.c
  obtain ⟨q0, q1, q2, q3⟩ := (h.one x hx).c
  have hl := fun nd : Nat => look (h.below (Ib.bl_drewN nd)).mp hwf
  rw [← hxa, get_of h.keys hx, hxa] at hl
  have hlen : ∀ (nd : Nat) ty, (Builtin.len_ #[106] ty #[.map (some m)]).run Try.prog (W.drewN nd) = .ok (.int .i64 K.length) (W.drewN nd) := fun nd ty => by
    have := Rm.len (h.below (Ib.bl_drewN nd)).mp Try.underlying106 ty
    rw [this]
    simp [kvs]
  have CN := Aside0.mk (none_p h)
  obtain ⟨g, hg⟩ : ∃ g, x.g = g := ⟨_, rfl⟩
  rw [hg] at hl q0 q1 q2 q3
  clear h hx hxa hwf hg
  go_enter Try.func52, Try.ntmps52
  go_wp2_with (go_at_call 95; (with_reducible refine CN.out.mono ?_); rintro e w' ⟨rfl, rfl⟩)
  go_quiet (fail)
  go_wp2_with fail
  go_ret3
  exact ⟨rfl, _, rfl⟩
theorem came_lim (h : PtAt W b p m n used K) {a : Int} (hn : ∀ x ∈ K, x.a ≠ a) (hwf : (Lit.int .i64 a).wf = true) (k : Int) (hk0 : 0 ≤ k) (hk1 : k ≤ 1125899906842624) (hlim : 4 ≤ K.length) :
    Calls Try.prog 48 #[.pointer (some ⟨p, 0, none⟩), .int .i64 a, .int .i64 k] W fun e w' => e = .returned (.tuple #[.bool false, .int .i64 31]) ∧ W = w' := by
  have CA := Aside0.mk (at_miss h hn hwf)
  have CL := Aside0.mk (lies_s k W)
  rw [show (decide (0 ≤ k) && decide (k ≤ 1125899906842624)) = true by simp [hk0, hk1]] at CL
  obtain ⟨c0, c1⟩ := h.c
  have hlen : ∀ ty, (Builtin.len_ #[106] ty #[.map (some m)]).run Try.prog W = .ok (.int .i64 K.length) W := fun ty => by
    have := Rm.len h.mp Try.underlying106 ty
    rw [this]
    simp [kvs]
  have hl4 : (4 : Int) ≤ K.length := by omega
  clear h hn hwf
  go_enter Try.func48, Try.ntmps48
  go_wp2_with (first
    | (go_at_call 93; (with_reducible refine CA.out.mono ?_); rintro e w' ⟨rfl, rfl⟩)
    | (go_at_call 94; (with_reducible refine CL.out.mono ?_); rintro e w' ⟨rfl, rfl⟩))
  go_ret2
  exact ⟨rfl, rfl⟩
end Go.Proofs.Ytakmcbakogjeeaa.Pt
