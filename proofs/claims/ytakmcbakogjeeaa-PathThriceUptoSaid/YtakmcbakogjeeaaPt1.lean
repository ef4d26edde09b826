/- Paths (layer 24): what lies in memory; at, May, Told; no condition. -/
import Derived.Test.YtakmcbakogjeeaaIb1
set_option linter.unusedVariables false
set_option linter.unusedSimpArgs false
namespace Go.Proofs.Ytakmcbakogjeeaa.Pt
open Go Go.RowKit Go.Maps Go.Proofs.Ytakmcbakogjeeaa.Rm
open Go.Proofs.YtakmcbakogjeeaaW.PrintWords Go.Proofs.YtakmcbakogjeeaaW.PrintLast Go.Proofs.YtakmcbakogjeeaaW.PrintMore
theorem law : Keyed Try.prog 3 := int_keyed Try.underlying3
theorem zeroP (w : World) : (zeroValue 169).run Try.prog w = .ok (.pointer none) w := by kernel_rfl
/-- A challenge: its eight bytes, till when. -/
abbrev Oz := List Int × Int
/-- A path: its address, its block, its row of challenges as a value; what it is. -/
structure Ent where
  a : Int
  g : Nat
  v : Value
  valid : Bool
  came : Int
  sent : Int
  op : List Oz
def ocells (l : List Oz) : List Value := l.flatMap (fun o => o.1.map (Value.int .u8) ++ [.int .i64 o.2])
def kvs (K : List Ent) : KV := K.map (fun x => (x.a, .pointer (some ⟨x.g, 0, none⟩)))
def Ent.cells (x : Ent) : Array Value := #[.bool x.valid, .int .i64 x.came, .int .i64 x.sent, x.v]
structure OneAt (W : World) (b : Nat) (x : Ent) : Prop where
  hg : b ≤ x.g
  blk : W.heap[x.g]? = some (.cells x.cells 172 (0, 0))
  row : W.ownsRow b 176 9 x.v x.op.length (ocells x.op)
  ok : ∀ o ∈ x.op, o.1.length = 8
  c0 : 0 ≤ x.came
  c1 : x.came ≤ 1125899906842624
  s0 : 0 ≤ x.sent
  s1 : x.sent ≤ 1125899906842624
/-- The paths in block p, their map in block m. -/
structure PtAt (W : World) (b p m n : Nat) (used : Int) (K : List Ent) : Prop where
  hp : b ≤ p
  hm : b ≤ m
  blk : W.heap[p]? = some (.cells #[.map (some m), .int .i64 used] 108 (0, 0))
  mp : W.ownsMap Try.prog 3 rawElem m n (mapD (kvs K))
  one : ∀ x ∈ K, OneAt W b x
  ng : K.Pairwise (fun x y => x.g ≠ y.g ∧ ∀ k, x.v.ownBlock = some k → y.v.ownBlock ≠ some k)
section
variable {W W' : World} {b p m n : Nat} {used : Int} {K : List Ent} {x : Ent}
theorem OneAt.lt (h : OneAt W b x) : x.g < W.heap.size := (Array.getElem?_eq_some_iff.1 h.blk).1
theorem OneAt.c (h : OneAt W b x) : W.cell? ⟨x.g, 0, none⟩ = some (.bool x.valid) ∧ W.cell? ⟨x.g, 1, none⟩ = some (.int .i64 x.came) ∧ W.cell? ⟨x.g, 2, none⟩ = some (.int .i64 x.sent) ∧ W.cell? ⟨x.g, 3, none⟩ = some x.v := by
  refine ⟨?_, ?_, ?_, ?_⟩ <;> (rw [cell_of_row W x.g _ _ _ _ h.blk]; rfl)
theorem OneAt.free (h : OneAt W b x) (i : Nat) : W.frozen? ⟨x.g, i, none⟩ = false := blk_frozen h.blk i
theorem PtAt.c (h : PtAt W b p m n used K) : W.cell? ⟨p, 0, none⟩ = some (.map (some m)) ∧ W.cell? ⟨p, 1, none⟩ = some (.int .i64 used) := by
  refine ⟨?_, ?_⟩ <;> (rw [cell_of_row W p _ _ _ _ h.blk]; rfl)
theorem PtAt.lt (h : PtAt W b p m n used K) : p < W.heap.size := (Array.getElem?_eq_some_iff.1 h.blk).1
theorem OneAt.below (h : OneAt W b x) (hb : Below W.heap.size W W') : OneAt W' b x :=
  ⟨h.hg, (hb.block _ h.lt).trans h.blk, own_move h.row (fun k hk => hb.block k (by obtain ⟨_, hc⟩ := own_typed h.row k hk; exact (Array.getElem?_eq_some_iff.1 hc).1)), h.ok, h.c0, h.c1, h.s0, h.s1⟩
theorem PtAt.below (h : PtAt W b p m n used K) (hb : Below W.heap.size W W') : PtAt W' b p m n used K :=
  ⟨h.hp, h.hm, (hb.block p h.lt).trans h.blk, h.mp.kept (grown_of_below hb none) (by simp), fun x hx => (h.one x hx).below hb, h.ng⟩
theorem PtAt.tight (h : PtAt W b p m n used K) : PtAt W b p m K.length used K := ⟨h.hp, h.hm, h.blk, by have := Rm.tight h.mp; rwa [show (kvs K).length = K.length from List.length_map _] at this, h.one, h.ng⟩
/-- The keys differ. -/
theorem PtAt.keys (h : PtAt W b p m n used K) : K.Pairwise (fun x y => x.a < y.a) := by
  have := rising_of h.mp law
  unfold Rising kvs at this
  rw [List.pairwise_map] at this
  exact this
theorem get_mem {k : Int} : ∀ {K : List Ent}, K.Pairwise (fun x y => x.a < y.a) → (∃ x ∈ K, x.a = k ∧ getL (kvs K) k = some (.pointer (some ⟨x.g, 0, none⟩))) ∨ ((∀ x ∈ K, x.a ≠ k) ∧ getL (kvs K) k = none)
  | [], _ => .inr ⟨(fun x hx => by cases hx), rfl⟩
  | y :: K, hk => by
    obtain ⟨h1, h2⟩ := List.pairwise_cons.1 hk
    have e : kvs (y :: K) = (y.a, .pointer (some ⟨y.g, 0, none⟩)) :: kvs K := rfl
    rw [e, getL_cons]
    by_cases hy : y.a = k
    · exact .inl ⟨y, List.mem_cons_self, hy, by rw [if_pos hy]⟩
    · rw [if_neg hy]
      rcases get_mem h2 with ⟨x, hx, hxa, hg⟩ | ⟨hn, hg⟩
      · exact .inl ⟨x, List.mem_cons_of_mem _ hx, hxa, hg⟩
      · exact .inr ⟨fun x hx => by
          rcases List.mem_cons.1 hx with rfl | hx
          · exact hy
          · exact hn x hx, hg⟩
theorem get_of (hk : K.Pairwise (fun x y => x.a < y.a)) (hx : x ∈ K) : getL (kvs K) x.a = some (.pointer (some ⟨x.g, 0, none⟩)) := by
  rcases get_mem (k := x.a) hk with ⟨y, hy, hya, hg⟩ | ⟨hn, _⟩
  · have : y = x := by
      have hinj : ∀ {K : List Ent}, K.Pairwise (fun x y => x.a < y.a) → ∀ {u v : Ent}, u ∈ K → v ∈ K → u.a = v.a → u = v := by
        intro K
        induction K with
        | nil => intro _ u v hu; cases hu
        | cons z K ih =>
          intro hk u v hu hv he
          obtain ⟨h1, h2⟩ := List.pairwise_cons.1 hk
          rcases List.mem_cons.1 hu with eu | mu
          · rcases List.mem_cons.1 hv with ev | mv
            · rw [eu, ev]
            · have := h1 v mv; rw [eu] at he; omega
          · rcases List.mem_cons.1 hv with ev | mv
            · have := h1 u mu; rw [ev] at he; omega
            · exact ih h2 mu mv he
      exact hinj hk hy hx hya
    subst this
    exact hg
  · exact absurd rfl (hn x hx)
theorem get_no (hk : K.Pairwise (fun x y => x.a < y.a)) {k : Int} (hn : ∀ x ∈ K, x.a ≠ k) : getL (kvs K) k = none := by
  rcases get_mem (k := k) hk with ⟨y, hy, hya, _⟩ | ⟨_, hg⟩
  · exact absurd hya (hn y hy)
  · exact hg
theorem wf_of {k : Int} (h0 : -9223372036854775808 ≤ k) (h1 : k ≤ 9223372036854775807) : (Lit.int .i64 k).wf = true := by
  have m0 : IntKind.i64.min = -9223372036854775808 := by decide +kernel
  have m1 : IntKind.i64.max = 9223372036854775807 := by decide +kernel
  simp [Lit.wf, m0, m1]
  omega
theorem look_ok {k : Int} (hm : W.ownsMap Try.prog 3 rawElem m n (mapD (kvs K))) (hwf : (Lit.int .i64 k).wf = true) : (Instr.lookup 106 (.map (some m)) (.int .i64 k) true).run Try.prog W = .ok (.tuple #[(getL (kvs K) k).getD (.pointer none), .bool (getL (kvs K) k).isSome]) W :=
  Rm.look_ok hm law Try.underlying106 (zeroP W) (keyInt Try.underlying3 hwf)
theorem look {k : Int} (hm : W.ownsMap Try.prog 3 rawElem m n (mapD (kvs K))) (hwf : (Lit.int .i64 k).wf = true) : (Instr.lookup 106 (.map (some m)) (.int .i64 k) false).run Try.prog W = .ok ((getL (kvs K) k).getD (.pointer none)) W :=
  Rm.look hm law Try.underlying106 (zeroP W) (keyInt Try.underlying3 hwf)
set_option maxRecDepth 100000 in
theorem none_p (h : PtAt W b p m n used K) : Calls Try.prog 95 #[.pointer (some ⟨p, 0, none⟩)] W fun e w' => e = .returned (.bool false) ∧ W = w' := by
  have c0 := h.c.1
  clear h
  have heq : ∀ W : World, (binOp .eql 106 (.map (some m)) (.map none)).run Try.prog W = .ok (.bool false) W := fun _ => by kernel_rfl
  go_enter Try.func95, Try.ntmps95
  go_wp2_with fail
  go_ret
  exact ⟨rfl, rfl⟩
theorem at_hit (h : PtAt W b p m n used K) (hx : x ∈ K) (hwf : (Lit.int .i64 x.a).wf = true) :
    Calls Try.prog 93 #[.pointer (some ⟨p, 0, none⟩), .int .i64 x.a] W fun e w' => e = .returned (.tuple #[.pointer (some ⟨x.g, 0, none⟩), .int .i64 0]) ∧ W = w' := by
  have c0 := h.c.1
  have hl := look_ok h.mp hwf
  rw [get_of h.keys hx] at hl
  have H := Aside0.mk h
  obtain ⟨k, hk⟩ : ∃ k, x.a = k := ⟨_, rfl⟩
  rw [hk] at hl ⊢
  obtain ⟨g, hg⟩ : ∃ g, x.g = g := ⟨_, rfl⟩
  rw [hg] at hl ⊢
  clear h hx hwf hk hg
  go_enter Try.func93, Try.ntmps93
  go_wp2_with (go_at_call 95; refine (none_p H.out).mono ?_; rintro e w' ⟨rfl, rfl⟩)
  go_ret2
  exact ⟨rfl, rfl⟩
theorem at_miss (h : PtAt W b p m n used K) {k : Int} (hn : ∀ x ∈ K, x.a ≠ k) (hwf : (Lit.int .i64 k).wf = true) :
    Calls Try.prog 93 #[.pointer (some ⟨p, 0, none⟩), .int .i64 k] W fun e w' => e = .returned (.tuple #[.pointer none, .int .i64 15]) ∧ W = w' := by
  have c0 := h.c.1
  have hl := look_ok h.mp hwf
  rw [get_no h.keys hn] at hl
  have H := Aside0.mk h
  clear h hn hwf
  go_enter Try.func93, Try.ntmps93
  go_wp2_with (go_at_call 95; refine (none_p H.out).mono ?_; rintro e w' ⟨rfl, rfl⟩)
  go_ret2
  exact ⟨rfl, rfl⟩
/-- How many bytes may be sent. -/
def mayV (x : Ent) : Int := if x.valid then 1125899906842624 else max 0 (3 * x.came - x.sent)
theorem may_s (h : PtAt W b p m n used K) (hx : x ∈ K) (hwf : (Lit.int .i64 x.a).wf = true) :
    Calls Try.prog 47 #[.pointer (some ⟨p, 0, none⟩), .int .i64 x.a] W fun e w' => e = .returned (.int .i64 (mayV x)) ∧ ∃ j, w' = W.drewN j := by
  have H := Aside0.mk (at_hit h hx hwf)
  obtain ⟨o1, o2, o3, o4, o5, o6, o7, o8⟩ := h.one x hx
  obtain ⟨q0, q1, q2, q3⟩ := (h.one x hx).c
  obtain ⟨k, g, v, vl, cm, st, op⟩ := x
  unfold mayV
  simp only at *
  clear h hx hwf o1 o2 o3 o4 q3
  cases vl with
  | true =>
    go_enter Try.func47, Try.ntmps47
    go_wp2_with (go_at_call 93; refine H.out.mono ?_; rintro e w' ⟨rfl, rfl⟩)
    go_ret
    exact ⟨rfl, 0, rfl⟩
  | false =>
    have e1 : IntKind.i64.wrap (3 * cm) = 3 * cm := by rw [IntKind.wrap_i64]; omega
    have e2 : IntKind.i64.wrap (3 * cm - st) = 3 * cm - st := by rw [IntKind.wrap_i64]; omega
    go_enter Try.func47, Try.ntmps47
    go_wp2_with (go_at_call 93; refine H.out.mono ?_; rintro e w' ⟨rfl, rfl⟩)
    go_quiet (fail)
    go_wp2
    all_goals
      go_ret
      exact ⟨congrArg (fun x => Ending.returned (Value.int .i64 x)) (by first | rfl | (simp only [Bool.false_eq_true, if_false]; omega) | omega), _, rfl⟩
end
end Go.Proofs.Ytakmcbakogjeeaa.Pt
