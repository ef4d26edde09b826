/- Paths (layer 24): New, Came from a new address, Ask; no condition. -/
import Derived.Test.YtakmcbakogjeeaaPt2
import Derived.Test.YtakmcbakogjeeaaIb3
import Derived.Maps.AppendAt
set_option linter.unusedVariables false
set_option linter.unusedSimpArgs false
namespace Go.Proofs.Ytakmcbakogjeeaa.Pt
open Go Go.RowKit Go.Maps Go.Proofs.Ytakmcbakogjeeaa.Rm
open Go.Proofs.YtakmcbakogjeeaaW.PrintWords Go.Proofs.YtakmcbakogjeeaaW.PrintLast Go.Proofs.YtakmcbakogjeeaaW.PrintMore
variable {W W' : World} {b p m n : Nat} {used : Int} {K A B : List Ent} {x x' : Ent}
/-- One more path, by its address. -/
def insE (e : Ent) : List Ent → List Ent
  | [] => [e]
  | y :: r => if e.a < y.a then e :: y :: r else y :: insE e r
theorem kvs_ins (e : Ent) : ∀ K : List Ent, kvs (insE e K) = insL (e.a, .pointer (some ⟨e.g, 0, none⟩)) (kvs K)
  | [] => rfl
  | y :: r => by
    have e1 : kvs (y :: r) = (y.a, Value.pointer (some ⟨y.g, 0, none⟩)) :: kvs r := rfl
    rw [e1, insE, insL]
    by_cases h : e.a < y.a
    · rw [if_pos h, if_pos h]; rfl
    · rw [if_neg h, if_neg h, ← kvs_ins e r]; rfl
theorem ins_perm (e : Ent) : ∀ K : List Ent, (insE e K).Perm (e :: K)
  | [] => List.Perm.refl _
  | y :: r => by
    unfold insE
    split
    · exact List.Perm.refl _
    · exact ((ins_perm e r).cons y).trans (List.Perm.swap e y r)
theorem put_new {e : Ent} (hn : ∀ x ∈ K, x.a ≠ e.a) : putL (kvs K) e.a (.pointer (some ⟨e.g, 0, none⟩)) = kvs (insE e K) := by
  have hd : delL (kvs K) e.a = kvs K := by
    unfold delL
    rw [List.filter_eq_self]
    intro q hq
    obtain ⟨x, hx, rfl⟩ := List.mem_map.1 hq
    have := hn x hx
    simpa using this
  unfold putL
  rw [hd, kvs_ins]
/-- What mapUpdate leaves. -/
noncomputable def updP (W : World) (m : Nat) (k : Int) (v : Value) : World := match (Instr.mapUpdate 106 (.map (some m)) (.int .i64 k) v).run Try.prog W with | .ok _ w' => w' | _ => W
theorem updP_run {kv : KV} (hm : W.ownsMap Try.prog 3 rawElem m n (mapD kv)) (hn : n < maxLen) {k : Int} (hk : (Lit.int .i64 k).wf = true) (v : Value) :
    (Instr.mapUpdate 106 (.map (some m)) (.int .i64 k) v).run Try.prog W = .ok () (updP W m k v) ∧ (updP W m k v).ownsMap Try.prog 3 rawElem m (n + 1) (mapD (putL kv k v)) ∧ W.mapTurned (updP W m k v) m := by
  obtain ⟨w', h1, h2, h3⟩ := Rm.store hm law Try.underlying106 hn (keyInt Try.underlying3 hk) v
  have e : updP W m k v = w' := by unfold updP; rw [h1]
  rw [e]
  exact ⟨h1, h2, h3⟩
/-- A new path. -/
def newE (a : Int) (g : Nat) (k : Int) : Ent := ⟨a, g, .slice none 0 0, false, k, 0, []⟩
theorem PtAt.ins (h : PtAt W b p m n used K) (hbw : b ≤ W.heap.size) {a : Int} (hn : ∀ x ∈ K, x.a ≠ a) (hwf : (Lit.int .i64 a).wf = true) (hnl : n < maxLen) (k : Int) (hk0 : 0 ≤ k) (hk1 : k ≤ 1125899906842624) :
    (Instr.mapUpdate 106 (.map (some m)) (.int .i64 a) (.pointer (some ⟨W.heap.size, 0, none⟩))).run Try.prog (W.alloc (.cells (newE a W.heap.size k).cells 172)) = .ok () (updP (W.alloc (.cells (newE a W.heap.size k).cells 172)) m a (.pointer (some ⟨W.heap.size, 0, none⟩))) ∧
    PtAt (updP (W.alloc (.cells (newE a W.heap.size k).cells 172)) m a (.pointer (some ⟨W.heap.size, 0, none⟩))) b p m (n + 1) used (insE (newE a W.heap.size k) K) ∧ Lf W (updP (W.alloc (.cells (newE a W.heap.size k).cells 172)) m a (.pointer (some ⟨W.heap.size, 0, none⟩))) b := by
  obtain ⟨w1, hw1⟩ : ∃ w1, W.alloc (.cells (newE a W.heap.size k).cells 172) = w1 := ⟨_, rfl⟩
  have hb1 : Below W.heap.size W w1 := by rw [← hw1]; exact below_alloc (Below.refl _ W) _
  have hnew : w1.heap[W.heap.size]? = some (.cells (newE a W.heap.size k).cells 172 (0, 0)) := by rw [← hw1]; exact heap_alloc_new W _
  have h1 := h.below hb1
  rw [hw1]
  obtain ⟨u1, u2, u3⟩ := updP_run h1.mp hnl hwf (.pointer (some ⟨W.heap.size, 0, none⟩))
  have hbm : Ib.ButM w1 (updP w1 m a (.pointer (some ⟨W.heap.size, 0, none⟩))) m := (Ib.ButM.of_below (m := m) (Below.refl _ w1)).turned u3
  have hf : ∀ j, j < w1.heap.size → j ≠ m → (updP w1 m a (.pointer (some ⟨W.heap.size, 0, none⟩))).heap[j]? = w1.heap[j]? := hbm.block
  have hm1 := h1.mp
  have hrow : ∀ y, OneAt w1 b y → OneAt (updP w1 m a (.pointer (some ⟨W.heap.size, 0, none⟩))) b y := fun y hy =>
    ⟨hy.hg, (hf y.g hy.lt (fun e => map_ne hm1 hy.blk e.symm)).trans hy.blk, own_move hy.row (fun j hj => by
      obtain ⟨_, hc⟩ := own_typed hy.row j hj
      exact hf j (Array.getElem?_eq_some_iff.1 hc).1 (fun e => map_ne hm1 hc e.symm)), hy.ok, hy.c0, hy.c1, hy.s0, hy.s1⟩
  refine ⟨u1, ⟨h.hp, h.hm, (hf p h1.lt (fun e => map_ne hm1 h1.blk e.symm)).trans h1.blk, ?_, fun y hy => ?_, ?_⟩, (Lf.of_below hb1 hbw).trans ⟨Ib.ButM.below hbm h.hm (by have := hb1.size; omega), fun k cs t hk _ _ => hf k (Array.getElem?_eq_some_iff.1 hk).1 (fun e => map_ne hm1 hk e.symm)⟩⟩
  · have := put_new (K := K) (e := newE a W.heap.size k) hn
    rw [← this]
    exact u2
  · rcases List.mem_cons.1 ((ins_perm _ K).mem_iff.1 hy) with e | hy
    · subst e
      refine ⟨hbw, (hf W.heap.size (by rw [← hw1]; simp) (fun e => map_ne hm1 hnew e.symm)).trans hnew, World.ownsRow_nil _ _ _ _, (fun o ho => by cases ho), hk0, hk1, Int.le_refl _, by simp [newE]⟩
    · exact hrow y (h1.one y hy)
  · refine ((ins_perm _ K).pairwise_iff (fun {x y} hxy => ap_symm x y hxy)).2 (List.pairwise_cons.2 ⟨fun y hy => ⟨?_, fun j hj => by simp [newE, Value.ownBlock] at hj⟩, h.ng⟩)
    have := (h.one y hy).lt
    simp only [newE]
    omega
set_option maxRecDepth 100000 in
set_option maxHeartbeats 1600000 in
theorem came_new (h : PtAt W b p m n used K) (hbw : b ≤ W.heap.size) {a : Int} (hn : ∀ x ∈ K, x.a ≠ a) (hwf : (Lit.int .i64 a).wf = true) (hnl : n < maxLen) (k : Int) (hk0 : 0 ≤ k) (hk1 : k ≤ 1125899906842624) (hlim : K.length < 4) :
    Calls Try.prog 48 #[.pointer (some ⟨p, 0, none⟩), .int .i64 a, .int .i64 k] W fun e w' => e = .returned (.tuple #[.bool true, .int .i64 0]) ∧ ∃ g, PtAt w' b p m (n + 1) used (insE (newE a g k) K) ∧ Lf W w' b := by
  have CA := Aside0.mk (at_miss h hn hwf)
  have CL := Aside0.mk (lies_s k W)
  rw [show (decide (0 ≤ k) && decide (k ≤ 1125899906842624)) = true by simp [hk0, hk1]] at CL
  obtain ⟨c0, c1⟩ := h.c
  have hlen : ∀ ty, (Builtin.len_ #[106] ty #[.map (some m)]).run Try.prog W = .ok (.int .i64 K.length) W := fun ty => by
    have := Rm.len h.mp Try.underlying106 ty
    rw [this]
    simp [kvs]
  have hl4 : (K.length : Int) < 4 := by omega
  obtain ⟨u1, u2, u3⟩ := h.ins hbw hn hwf hnl k hk0 hk1
  have U2 := Aside0.mk (And.intro u2 u3)
  have e0 : (newE a W.heap.size k).cells = #[.bool false, .int .i64 k, .int .i64 0, .slice none 0 0] := rfl
  rw [e0] at u1 U2
  clear h hn hwf u2 u3 e0 hlim
  go_enter Try.func48, Try.ntmps48
  go_wp2_with (first
    | (go_at_call 93; (with_reducible refine CA.out.mono ?_); rintro e w' ⟨rfl, rfl⟩)
    | (go_at_call 94; (with_reducible refine CL.out.mono ?_); rintro e w' ⟨rfl, rfl⟩))
  go_ret2
  exact ⟨rfl, _, U2.out⟩
theorem new_made (w : World) (a : Int) (hwf : (Lit.int .i64 a).wf = true) : ∃ w1, (Instr.mapUpdate 106 (.map (some w.heap.size)) (.int .i64 a) (.pointer (some ⟨w.heap.size + 1, 0, none⟩))).run Try.prog ((w.alloc (.map #[] 0)).alloc (.cells #[.bool false, .int .i64 0, .int .i64 0, .slice none 0 0] 172)) = .ok () w1 ∧
    w.heap.size + 2 ≤ w1.heap.size ∧ PtAt (w1.alloc (.cells #[.map (some w.heap.size), .int .i64 a] 108)) w.heap.size w1.heap.size w.heap.size 1 a [newE a (w.heap.size + 1) 0] ∧ Below w.heap.size w (w1.alloc (.cells #[.map (some w.heap.size), .int .i64 a] 108)) := by
  obtain ⟨w1, hw1⟩ : ∃ w1, w.alloc (.map #[] 0) = w1 := ⟨_, rfl⟩
  have hsz1 : w1.heap.size = w.heap.size + 1 := by rw [← hw1]; simp
  have hb1 : Below w.heap.size w w1 := by rw [← hw1]; exact below_alloc (Below.refl _ w) _
  have hm1 : w1.ownsMap Try.prog 3 rawElem w.heap.size 0 (mapD []) := by rw [← hw1]; exact Rm.made w _ _
  have hm2 := hm1.alloc (.cells #[.bool false, .int .i64 0, .int .i64 0, .slice none 0 0] 172 (0, 0))
  obtain ⟨w2, hw2⟩ : ∃ w2, w1.alloc (.cells #[.bool false, .int .i64 0, .int .i64 0, .slice none 0 0] 172 (0, 0)) = w2 := ⟨_, rfl⟩
  have hb2 : Below w1.heap.size w1 w2 := by rw [← hw2]; exact below_alloc (Below.refl _ w1) _
  have hnew : w2.heap[w.heap.size + 1]? = some (.cells #[.bool false, .int .i64 0, .int .i64 0, .slice none 0 0] 172 (0, 0)) := by rw [← hw2, ← hsz1]; exact heap_alloc_new w1 _
  have hsz2 : w2.heap.size = w.heap.size + 2 := by rw [← hw2]; simp [hsz1]
  rw [hw1]
  rw [hw2] at hm2 ⊢
  obtain ⟨u1, u2, u3⟩ := updP_run hm2 (by unfold maxLen; omega) hwf (.pointer (some ⟨w.heap.size + 1, 0, none⟩))
  have hbm : Ib.ButM w2 (updP w2 w.heap.size a (.pointer (some ⟨w.heap.size + 1, 0, none⟩))) w.heap.size := (Ib.ButM.of_below (m := w.heap.size) (Below.refl _ w2)).turned u3
  obtain ⟨w3, hw3⟩ : ∃ w3, updP w2 w.heap.size a (.pointer (some ⟨w.heap.size + 1, 0, none⟩)) = w3 := ⟨_, rfl⟩
  rw [hw3] at u1 u2 hbm
  have hs3 := hbm.size
  have hb3 : Below w.heap.size w w3 := (hb1.trans (hb2.mono (by omega))).trans (Ib.ButM.below hbm (Nat.le_refl _) (by omega))
  have hb4 : Below w3.heap.size w3 (w3.alloc (.cells #[.map (some w.heap.size), .int .i64 a] 108)) := below_alloc (Below.refl _ w3) _
  refine ⟨w3, u1, by omega, ⟨by omega, Nat.le_refl _, heap_alloc_new w3 _, ?_, fun x hx => ?_, List.pairwise_singleton _ _⟩, hb3.trans (hb4.mono (by omega))⟩
  · exact u2.kept (grown_of_below hb4 none) (by simp)
  · obtain rfl := List.mem_singleton.1 hx
    refine ⟨?_, (hb4.block _ ?_).trans ((hbm.block _ ?_ ?_).trans hnew), World.ownsRow_nil _ _ _ _, (fun o ho => by cases ho), Int.le_refl _, ?_, Int.le_refl _, ?_⟩ <;> simp [newE] <;> omega
set_option maxRecDepth 100000 in
theorem new_s (w : World) (a : Int) (hwf : (Lit.int .i64 a).wf = true) : Calls Try.prog 46 #[.int .i64 a, .bool false] w fun e w' => ∃ p m g, e = .returned (.pointer (some ⟨p, 0, none⟩)) ∧ PtAt w' w.heap.size p m 1 a [newE a g 0] ∧ Below w.heap.size w w' := by
  have hmm := @run_makeMap Try.prog
  obtain ⟨w1, hrun, hs, hP, hB⟩ := new_made w a hwf
  have HP := Aside0.mk hP
  have HB := Aside0.mk hB
  clear hP hB
  go_enter Try.func46, Try.ntmps46
  go_wp2_with fail
  go_ret
  exact ⟨_, _, _, rfl, HP.out, HB.out⟩
end Go.Proofs.Ytakmcbakogjeeaa.Pt
