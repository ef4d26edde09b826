/- Paths (layer 24): the calls of the law PathThrice, over its own state; no condition. -/
import Derived.Test.YtakmcbakogjeeaaPt8
set_option linter.unusedVariables false
set_option linter.unusedSimpArgs false
namespace Go.Proofs.Ytakmcbakogjeeaa.Pt
open Go Go.RowKit Go.Maps Go.Proofs.Ytakmcbakogjeeaa.Rm
open Go.Proofs.YtakmcbakogjeeaaW.PrintWords Go.Proofs.YtakmcbakogjeeaaW.PrintLast Go.Proofs.YtakmcbakogjeeaaW.PrintMore
variable {W W' : World} {b p m n : Nat} {used : Int} {K A B : List Ent} {x x' : Ent}
/-- The challenge of an address. -/
def chal (a : Int) : List Int := [a, 1, 0, 0, 0, 0, 0, 0]
/-- What the law keeps of one path. -/
structure Good (y : Ent) : Prop where
  a0 : 0 ≤ y.a
  a3 : y.a ≤ 3
  few : y.op.length ≤ 3
  own : ∀ o ∈ y.op, o.1 = chal y.a
/-- The law's state: the first path is the address 0's. -/
structure ThL (K : List Ent) (came sent : Int) (asked valid : Bool) (N : Int) : Prop where
  head : ∃ z B, K = z :: B ∧ z.a = 0 ∧ z.valid = valid ∧ z.came = came ∧ z.sent = sent ∧ (z.op ≠ [] → asked = true)
  good : ∀ y ∈ K, Good y
  thrice : valid = true ∨ sent ≤ 3 * came
  c0 : 0 ≤ came
  c1 : came ≤ N
  s0 : 0 ≤ sent
  s1 : sent ≤ N
structure Th (w0 W : World) (p m : Nat) (K : List Ent) (came sent : Int) (asked valid : Bool) (N : Int) : Prop where
  pt : PtAt W w0.heap.size p m K.length 0 K
  bel : Below w0.heap.size w0 W
  law : ThL K came sent asked valid N
variable {w0 : World} {came sent N : Int} {asked valid : Bool}
theorem Good.wf {y : Ent} (h : Good y) : (Lit.int .i64 y.a).wf = true := wf_of (by have := h.a0; omega) (by have := h.a3; omega)
/-- The keys rise from 0, so no more than four. -/
theorem few4 : ∀ {K : List Ent} {a : Int}, K.Pairwise (fun x y => x.a < y.a) → (∀ y ∈ K, a ≤ y.a ∧ y.a ≤ 3) → (K.length : Int) ≤ max 0 (4 - a)
  | [], a, _, _ => by simp; omega
  | y :: r, a, hk, hb => by
    obtain ⟨h1, h2⟩ := List.pairwise_cons.1 hk
    have hy := hb y List.mem_cons_self
    have ih := few4 (a := y.a + 1) h2 (fun z hz => ⟨by have := h1 z hz; omega, (hb z (List.mem_cons_of_mem _ hz)).2⟩)
    rw [List.length_cons]
    omega
theorem Th.len (h : Th w0 W p m K came sent asked valid N) : K.length ≤ 4 := by
  have := few4 (a := 0) h.pt.keys (fun y hy => ⟨(h.law.good y hy).a0, (h.law.good y hy).a3⟩)
  omega
theorem Th.below (h : Th w0 W p m K came sent asked valid N) (hb : Below W.heap.size W W') : Th w0 W' p m K came sent asked valid N := ⟨h.pt.below hb, h.bel.trans (hb.mono h.bel.size), h.law⟩
theorem ThL.mono {N' : Int} (h : ThL K came sent asked valid N) (hN : N ≤ N') : ThL K came sent asked valid N' := ⟨h.head, h.good, h.thrice, h.c0, by have := h.c1; omega, h.s0, by have := h.s1; omega⟩
theorem Th.mono {N' : Int} (h : Th w0 W p m K came sent asked valid N) (hN : N ≤ N') : Th w0 W p m K came sent asked valid N' := ⟨h.pt, h.bel, h.law.mono hN⟩
/-- A path that is not the first turned. -/
theorem ThL.other (h : ThL (A ++ x :: B) came sent asked valid N) (ha : x.a ≠ 0) (hx : Good x') : ThL (A ++ x' :: B) came sent asked valid N := by
  obtain ⟨z, B', hz, h1, h2, h3, h4, h5⟩ := h.head
  refine ⟨?_, fun y hy => ?_, h.thrice, h.c0, h.c1, h.s0, h.s1⟩
  · cases A with
    | nil =>
      simp only [List.nil_append, List.cons.injEq] at hz
      exact absurd (hz.1 ▸ h1) ha
    | cons u A =>
      simp only [List.cons_append, List.cons.injEq] at hz
      exact ⟨u, A ++ x' :: B, rfl, by rw [hz.1]; exact h1, by rw [hz.1]; exact h2, by rw [hz.1]; exact h3, by rw [hz.1]; exact h4, by rw [hz.1]; exact h5⟩
  · rcases List.mem_append.1 hy with hy | hy
    · exact h.good y (by simp [hy])
    · rcases List.mem_cons.1 hy with rfl | hy
      · exact hx
      · exact h.good y (by simp [hy])
/-- Is an address known? -/
theorem known_or (K : List Ent) (a : Int) : (∃ A x B, K = A ++ x :: B ∧ x.a = a) ∨ ∀ y ∈ K, y.a ≠ a := by
  by_cases h : ∃ x ∈ K, x.a = a
  · obtain ⟨x, hx, e⟩ := h
    obtain ⟨A, B, e2⟩ := List.append_of_mem hx
    exact .inl ⟨A, x, B, e2, e⟩
  · exact .inr (fun y hy e => h ⟨y, hy, e⟩)
theorem ThL.zero (h : ThL K came sent asked valid N) (hk : K.Pairwise (fun x y => x.a < y.a)) (hK : K = A ++ x :: B) (ha : x.a = 0) : A = [] ∧ x.valid = valid ∧ x.came = came ∧ x.sent = sent ∧ (x.op ≠ [] → asked = true) := by
  obtain ⟨z, B', hz, h1, h2, h3, h4, h5⟩ := h.head
  cases A with
  | nil =>
    rw [hK] at hz
    simp only [List.nil_append, List.cons.injEq] at hz
    rw [hz.1]
    exact ⟨rfl, h2, h3, h4, h5⟩
  | cons u A =>
    exfalso
    rw [hK] at hk
    have := (List.pairwise_cons.1 hk).1 x (by simp)
    have := (h.good u (by rw [hK]; simp)).a0
    omega
theorem set_good {y : Ent} (h : Good y) (c s : Int) (v : Bool) : Good { y with came := c, sent := s, valid := v } := ⟨h.a0, h.a3, h.few, h.own⟩
theorem ins_tail {e z : Ent} {B : List Ent} (h : ¬ e.a < z.a) : insE e (z :: B) = z :: insE e B := by rw [insE, if_neg h]
theorem ins_len (e : Ent) (K : List Ent) : (insE e K).length = K.length + 1 := by have := (ins_perm e K).length_eq; simpa using this
theorem ThL.ins (h : ThL K came sent asked valid N) {a : Int} (h0 : 0 < a) (h3 : a ≤ 3) (g : Nat) (k : Int) : ThL (insE (newE a g k) K) came sent asked valid N := by
  obtain ⟨z, B', hz, h1, h2, h3', h4, h5⟩ := h.head
  refine ⟨⟨z, insE (newE a g k) B', by rw [hz]; exact ins_tail (by rw [h1]; simp only [newE]; omega), h1, h2, h3', h4, h5⟩, fun y hy => ?_, h.thrice, h.c0, h.c1, h.s0, h.s1⟩
  rcases List.mem_cons.1 ((ins_perm _ K).mem_iff.1 hy) with rfl | hy
  · exact ⟨by simp only [newE]; omega, by simp only [newE]; omega, by simp [newE], fun o ho => by simp [newE] at ho⟩
  · exact h.good y hy
theorem th_came (h : Th w0 W p m K came sent asked valid N) {a k : Int} (a0 : 0 ≤ a) (a3 : a ≤ 3) (k0 : 0 ≤ k) (k1 : k ≤ 65535) (hN : N ≤ 1000000000000) :
    Calls Try.prog 48 #[.pointer (some ⟨p, 0, none⟩), .int .i64 a, .int .i64 k] W fun e w' => ∃ (x : Bool) (ec : Int) (K' : List Ent), e = .returned (.tuple #[.bool x, .int .i64 ec]) ∧ (ec = 0 ∨ ec = 31) ∧ (a = 0 → x = false) ∧ Th w0 w' p m K' (if a = 0 then came + k else came) sent asked valid (N + 65535) ∧ Lf W w' w0.heap.size := by
  have hbw := h.bel.size
  rcases known_or K a with ⟨A, x, B, rfl, rfl⟩ | hn
  · have hg := h.law.good x (by simp)
    refine (came_hit h.pt hg.wf k k0 (by omega)).mono ?_
    rintro e w' ⟨rfl, hp, hb⟩
    have hp' : PtAt w' w0.heap.size p m (A ++ { x with came := min 1125899906842624 (x.came + k) } :: B).length 0 (A ++ { x with came := min 1125899906842624 (x.came + k) } :: B) := by have := hp.tight; exact this
    refine ⟨false, 0, _, rfl, .inl rfl, fun _ => rfl, ⟨hp', h.bel.trans hb.bel, ?_⟩, hb⟩
    by_cases hz : x.a = 0
    · rw [if_pos hz]
      obtain ⟨rfl, e1, e2, e3, e4⟩ := h.law.zero h.pt.keys rfl hz
      have hc1 := h.law.c1
      have hc0 := h.law.c0
      have hmin : min 1125899906842624 (x.came + k) = came + k := by rw [e2]; omega
      refine ⟨⟨_, B, rfl, hz, e1, hmin, e3, e4⟩, fun y hy => ?_, ?_, by omega, by omega, h.law.s0, by have := h.law.s1; omega⟩
      · rcases List.mem_cons.1 hy with rfl | hy
        · exact ⟨hg.a0, hg.a3, hg.few, hg.own⟩
        · exact h.law.good y (by simp [hy])
      · rcases h.law.thrice with e | e
        · exact .inl e
        · exact .inr (by omega)
    · rw [if_neg hz]
      exact (h.law.other (x' := { x with came := min 1125899906842624 (x.came + k) }) hz ⟨hg.a0, hg.a3, hg.few, hg.own⟩).mono (by omega)
  · have hwf : (Lit.int .i64 a).wf = true := wf_of (by omega) (by omega)
    have hz : a ≠ 0 := fun e => by
      obtain ⟨z, B', hz, h1, _⟩ := h.law.head
      exact hn z (by rw [hz]; simp) (by rw [h1, e])
    by_cases hl : K.length < 4
    · refine (came_new h.pt hbw hn hwf (by unfold maxLen; omega) k k0 (by omega) hl).mono ?_
      rintro e w' ⟨rfl, g, hp, hb⟩
      refine ⟨true, 0, insE (newE a g k) K, rfl, .inl rfl, fun e => absurd e hz, ⟨?_, h.bel.trans hb.bel, ?_⟩, hb⟩
      · have := hp
        rwa [← ins_len (newE a g k) K] at this
      · rw [if_neg hz]
        exact (h.law.ins (by omega) a3 g k).mono (by omega)
    · refine (came_lim h.pt hn hwf k k0 (by omega) (by omega)).mono ?_
      rintro e w' ⟨rfl, rfl⟩
      refine ⟨false, 31, K, rfl, .inr rfl, fun _ => rfl, ?_, Lf.refl _ _⟩
      rw [if_neg hz]
      exact h.mono (by omega)
theorem th_sent (h : Th w0 W p m K came sent asked valid N) {a k : Int} (a0 : 0 ≤ a) (a3 : a ≤ 3) (k0 : 0 ≤ k) (k1 : k ≤ 65535) (hN : N ≤ 1000000000000) :
    Calls Try.prog 49 #[.pointer (some ⟨p, 0, none⟩), .int .i64 a, .int .i64 k] W fun e w' => ∃ (ec : Int) (K' : List Ent), e = .returned (.int .i64 ec) ∧ (a = 0 → valid = true → ec = 0) ∧ Th w0 w' p m K' came (if a = 0 ∧ ec = 0 then sent + k else sent) asked valid (N + 65535) ∧ Lf W w' w0.heap.size := by
  have hbw := h.bel.size
  rcases known_or K a with ⟨A, x, B, rfl, rfl⟩ | hn
  · have hg := h.law.good x (by simp)
    refine (sent_hit h.pt hbw hg.wf k k0 (by omega)).mono ?_
    rintro e w' ⟨rfl, hp, hb⟩
    have hp' : PtAt w' w0.heap.size p m (A ++ sentE x k :: B).length 0 (A ++ sentE x k :: B) := hp.tight
    refine ⟨sentV x k, _, rfl, ?_, ⟨hp', h.bel.trans hb.bel, ?_⟩, hb⟩
    · intro hz hv
      obtain ⟨rfl, e1, e2, e3, e4⟩ := h.law.zero h.pt.keys rfl hz
      unfold sentV mayV
      rw [e1, hv, if_pos rfl, if_neg (by omega)]
    · have hge : Good (sentE x k) := by
        unfold sentE
        split
        · exact hg
        · exact ⟨hg.a0, hg.a3, hg.few, hg.own⟩
      by_cases hz : x.a = 0
      · obtain ⟨rfl, e1, e2, e3, e4⟩ := h.law.zero h.pt.keys rfl hz
        have hs0 := h.law.s0
        have hs1 := h.law.s1
        have hc0 := h.law.c0
        have hc1 := h.law.c1
        by_cases hm : k > mayV x
        · have ev : sentV x k = 30 := by unfold sentV; rw [if_pos hm]
          have ee : sentE x k = x := by unfold sentE; rw [if_pos hm]
          rw [ev, ee, if_neg (by omega)]
          exact h.law.mono (by omega)
        · have ev : sentV x k = 0 := by unfold sentV; rw [if_neg hm]
          have ee : sentE x k = { x with sent := min 1125899906842624 (x.sent + k) } := by unfold sentE; rw [if_neg hm]
          rw [ev, ee, if_pos ⟨hz, rfl⟩]
          have hmin : min 1125899906842624 (x.sent + k) = sent + k := by rw [e3]; omega
          refine ⟨⟨_, B, rfl, hz, e1, e2, hmin, e4⟩, fun y hy => ?_, ?_, hc0, by omega, by omega, by omega⟩
          · rcases List.mem_cons.1 hy with rfl | hy
            · exact ⟨hg.a0, hg.a3, hg.few, hg.own⟩
            · exact h.law.good y (by simp [hy])
          · cases hv : valid with
            | true => exact .inl rfl
            | false =>
              refine .inr ?_
              have ht := h.law.thrice
              rw [hv] at ht
              simp only [Bool.false_eq_true, false_or] at ht
              unfold mayV at hm
              rw [e1, hv, e2, e3] at hm
              simp only [Bool.false_eq_true, if_false] at hm
              omega
      · rw [if_neg (fun hh => hz hh.1)]
        exact (h.law.other hz hge).mono (by omega)
  · have hwf : (Lit.int .i64 a).wf = true := wf_of (by omega) (by omega)
    have hz : a ≠ 0 := fun e => by
      obtain ⟨z, B', hz, h1, _⟩ := h.law.head
      exact hn z (by rw [hz]; simp) (by rw [h1, e])
    refine (sent_miss h.pt hn hwf k).mono ?_
    rintro e w' ⟨rfl, rfl⟩
    refine ⟨15, K, rfl, fun e => absurd e hz, ?_, Lf.refl _ _⟩
    rw [if_neg (fun hh => hz hh.1)]
    exact h.mono (by omega)
theorem th_ask (h : Th w0 W p m K came sent asked valid N) {a : Int} (a0 : 0 ≤ a) (a3 : a ≤ 3) :
    Calls Try.prog 50 #[.pointer (some ⟨p, 0, none⟩), .int .i64 a, .agg #[.int .u8 a, .int .u8 1, .int .u8 0, .int .u8 0, .int .u8 0, .int .u8 0, .int .u8 0, .int .u8 0], .int .i64 1125899906842624] W fun e w' => ∃ (ec : Int) (K' : List Ent), e = .returned (.int .i64 ec) ∧ Th w0 w' p m K' came sent (if ec = 0 ∧ a = 0 then true else asked) valid N ∧ Lf W w' w0.heap.size := by
  have hbw := h.bel.size
  rcases known_or K a with ⟨A, x, B, rfl, rfl⟩ | hn
  · have hg := h.law.good x (by simp)
    by_cases hl : x.op.length < 3
    · refine (ask_hit h.pt hbw hg.wf x.a 1 0 0 0 0 0 0 1125899906842624 (by omega) (by omega) hl).mono ?_
      rintro e w' ⟨rfl, v, hp, hb⟩
      have hp' : PtAt w' w0.heap.size p m (A ++ { x with v := v, op := x.op ++ [([x.a, 1, 0, 0, 0, 0, 0, 0], 1125899906842624)] } :: B).length 0 (A ++ { x with v := v, op := x.op ++ [([x.a, 1, 0, 0, 0, 0, 0, 0], 1125899906842624)] } :: B) := hp.tight
      have hge : Good { x with v := v, op := x.op ++ [([x.a, 1, 0, 0, 0, 0, 0, 0], 1125899906842624)] } := ⟨hg.a0, hg.a3, by simp only [List.length_append, List.length_singleton]; omega, fun o ho => by
        rcases List.mem_append.1 ho with ho | ho
        · exact hg.own o ho
        · rw [List.mem_singleton.1 ho]; rfl⟩
      refine ⟨0, _, rfl, ⟨hp', h.bel.trans hb.bel, ?_⟩, hb⟩
      by_cases hz : x.a = 0
      · rw [if_pos ⟨rfl, hz⟩]
        obtain ⟨rfl, e1, e2, e3, e4⟩ := h.law.zero h.pt.keys rfl hz
        refine ⟨⟨_, B, rfl, hz, e1, e2, e3, fun _ => rfl⟩, fun y hy => ?_, h.law.thrice, h.law.c0, h.law.c1, h.law.s0, h.law.s1⟩
        rcases List.mem_cons.1 hy with rfl | hy
        · exact hge
        · exact h.law.good y (by simp [hy])
      · rw [if_neg (fun hh => hz hh.2)]
        exact h.law.other hz hge
    · refine (ask_full h.pt hg.wf x.a 1 0 0 0 0 0 0 1125899906842624 (by omega) (by omega) (by omega)).mono ?_
      rintro e w' ⟨rfl, hb⟩
      refine ⟨35, A ++ x :: B, rfl, ?_, Lf.of_below hb hbw⟩
      rw [if_neg (by omega)]
      exact h.below hb
  · have hwf : (Lit.int .i64 a).wf = true := wf_of (by omega) (by omega)
    refine (ask_miss h.pt hn hwf a 1 0 0 0 0 0 0 1125899906842624).mono ?_
    rintro e w' ⟨rfl, hb⟩
    refine ⟨15, K, rfl, ?_, Lf.of_below hb hbw⟩
    rw [if_neg (by omega)]
    exact h.below hb
theorem hits_own {y : Ent} (hg : Good y) {a : Int} (h : hits (chal a) y.op = true) : y.a = a ∧ y.op ≠ [] := by
  obtain ⟨o, ho, he⟩ := List.any_eq_true.1 h
  have h1 := hg.own o ho
  have h2 : o.1 = chal a := by simpa using he
  rw [h1] at h2
  unfold chal at h2
  exact ⟨by injection h2, fun e => by rw [e] at ho; cases ho⟩
theorem th_answer (h : Th w0 W p m K came sent asked valid N) {a : Int} (a0 : 0 ≤ a) (a3 : a ≤ 3) :
    Calls Try.prog 51 #[.pointer (some ⟨p, 0, none⟩), .agg #[.int .u8 a, .int .u8 1, .int .u8 0, .int .u8 0, .int .u8 0, .int .u8 0, .int .u8 0, .int .u8 0]] W fun e w' =>
      (e = .returned (.tuple #[.int .i64 0, .bool false]) ∧ Th w0 w' p m K came sent asked valid N ∧ Lf W w' w0.heap.size) ∨
      ∃ K', e = .returned (.tuple #[.int .i64 a, .bool true]) ∧ (a = 0 → asked = true) ∧ Th w0 w' p m K' came sent asked (if a = 0 then true else valid) N ∧ Lf W w' w0.heap.size := by
  have hbw := h.bel.size
  have hne : 0 < K.length := by obtain ⟨z, B, hz, _⟩ := h.law.head; rw [hz]; simp
  refine (answer_s h.pt hbw (fun x hx => (h.law.good x hx).wf) (by have := h.len; omega) hne (fun x hx => by have := (h.law.good x hx).few; omega) a 1 0 0 0 0 0 0).mono ?_
  rintro e w' (⟨rfl, _, hp, hb⟩ | ⟨A, x, B, hK, hA, hx, rfl, hp, hb⟩)
  · exact .inl ⟨rfl, ⟨hp, h.bel.trans hb.bel, h.law⟩, hb⟩
  · have hg := h.law.good x (by rw [hK]; simp)
    obtain ⟨e1, hop⟩ := hits_own (a := a) hg hx
    have hge : Good x.known := ⟨hg.a0, hg.a3, by simp [Ent.known], fun o ho => by simp [Ent.known] at ho⟩
    have hp' : PtAt w' w0.heap.size p m (A ++ x.known :: B).length 0 (A ++ x.known :: B) := hp.tight
    subst hK
    refine .inr ⟨_, by rw [e1], ?_, ⟨hp', h.bel.trans hb.bel, ?_⟩, hb⟩
    · intro hz
      exact (h.law.zero h.pt.keys rfl (e1.trans hz)).2.2.2.2 hop
    · by_cases hz : a = 0
      · rw [if_pos hz]
        obtain ⟨rfl, f1, f2, f3, f4⟩ := h.law.zero h.pt.keys rfl (e1.trans hz)
        refine ⟨⟨x.known, B, rfl, e1.trans hz, rfl, f2, f3, fun hh => absurd rfl hh⟩, fun y hy => ?_, .inl rfl, h.law.c0, h.law.c1, h.law.s0, h.law.s1⟩
        rcases List.mem_cons.1 hy with rfl | hy
        · exact hge
        · exact h.law.good y (by simp [hy])
      · rw [if_neg hz]
        exact h.law.other (by rw [e1]; exact hz) hge
theorem th_told (h : Th w0 W p m K came sent asked valid N) :
    Calls Try.prog 52 #[.pointer (some ⟨p, 0, none⟩)] W fun e w' => ∃ l : Nat, e = .returned (.tuple #[.int .i64 0, .bool valid, .int .i64 l]) ∧ Th w0 w' p m K came sent asked valid N ∧ Lf W w' w0.heap.size := by
  obtain ⟨z, B, hz, h1, h2, _⟩ := h.law.head
  refine (told_s h.pt (x := z) (by rw [hz]; simp) h1 (wf_of (by omega) (by omega))).mono ?_
  rintro e w' ⟨rfl, j, rfl⟩
  exact ⟨_, by rw [h2], h.below (Ib.bl_drewN j), Lf.of_below (Ib.bl_drewN j) h.bel.size⟩
end Go.Proofs.Ytakmcbakogjeeaa.Pt
