/- DatagramsOnce: the law's walk; no condition but the reach of its arguments. -/
import Derived.Test.YtpilpgdlgkndmaaDgFull
import Derived.Test.YtpilpgdlgkndmaaOpens
set_option linter.unusedVariables false
set_option linter.unusedSimpArgs false
namespace Go.Proofs.Ytpilpgdlgkndmaa.Dg
open Go.RowKit Go.Proofs.YtpilpgdlgkndmaaW.PrintWords Go.Proofs.YtpilpgdlgkndmaaW.PrintLast Go.Proofs.YtpilpgdlgkndmaaW.PrintMore Go.Proofs.Ytpilpgdlgkndmaa.Rw
/-- The blocks of a type. -/
def Ty (t : Nat) (w : World) (k : Nat) : Prop := ∃ cells, w.heap[k]? = some (.cells cells t (0, 0))
theorem wr_kept {w w' : World} {base n size e : Nat} {v : Value} {xs : List Value} {S : Nat → Prop} (h : WRow w base e size v n xs) (hk : Kept w w' S) (hS : ∀ k cells, S k → w.heap[k]? = some (.cells cells e (0, 0)) → False) : WRow w' base e size v n xs :=
  wr_move h (fun k hb => by
    obtain ⟨_, cells, hc⟩ := wr_typed h k hb
    exact hk.2 k (blk_lt hc) (fun hs => hS k cells hs hc))
theorem tch_no {w : World} {e : Nat} (h1 : e ≠ 54) (h2 : e ≠ 22) : ∀ k cells, Tch w k → w.heap[k]? = some (.cells cells e (0, 0)) → False := fun k cells ht hc => by
  obtain ⟨cells', t, ht, hc'⟩ := ht
  rcases ht with rfl | rfl
  · exact ty_ne hc hc' h1 rfl
  · exact ty_ne hc hc' h2 rfl
/-- The queue stays where blocks of another type are written. -/
theorem Que.keptT {w w' : World} {base g : Nat} {most room : Int} {A : Option Addr} {c : Nat} {its : List (Value × List Int)} {T : Nat} (h : Que w base g most room A c its) (hk : Kept w w' (Ty T w)) (h1 : T ≠ 54) (h2 : T ≠ 22) (h3 : T ≠ 5) : Que w' base g most room A c its := by
  refine ⟨h.hg, (hk.2 g (blk_lt h.blk) ?_).trans h.blk, wr_kept h.row hk ?_, fun it hi => ?_, h.apart, h.r0, h.r1, h.few⟩
  · rintro ⟨cells, hc⟩
    exact ty_ne hc h.blk h1 rfl
  · rintro k cells ⟨cells', hc'⟩ hc
    exact ty_ne hc' hc h2 rfl
  · have h0 := Kd.R_kept (Kd.R_bound (h.own it hi)) hk (fun k hb ht => by
      obtain ⟨_, _, _, q, hq, cells, hc⟩ := hb
      obtain ⟨cells', hc'⟩ := ht
      have hq' : q = 5 := by simpa [Kd.int, Kd.scalar] using hq
      subst hq'
      exact ty_ne hc' hc h3 rfl)
    exact Kd.R_mono h0 (fun k hk => hk.1)
theorem kept_row {w W : World} {base n size e : Nat} {v : Value} {xs : List Value} (h : WRow w base e size v n xs) (hg : w.grownBy W v.ownBlock) : Kept w W (Ty e w) :=
  ⟨hg.size, fun k hk hn => hg.block k hk (fun he => hn (by
    obtain ⟨_, cells, hc⟩ := wr_typed h k he.symm
    exact ⟨cells, hc⟩))⟩
def strV (l : List Int) : Value := .string (strOfNums l)
theorem strs_snoc (xs : List (List Int)) (l : List Int) : xs.map strV ++ [.string (strOfNums l)] = (xs ++ [l]).map strV := by simp [strV]
theorem info9 : (Try.prog.info? 9).map (fun i => (i.zero, i.size, i.bytes)) = some (some (.string ByteArray.empty), 1, 16) := by kernel_rfl
/-- Two rows in two blocks. -/
def Apart (v u : Value) : Prop := ∀ k, v.ownBlock = some k → u.ownBlock = some k → False
theorem Apart.symm {v u : Value} (h : Apart v u) : Apart u v := fun k h1 h2 => h k h2 h1
/-- An append to the row vi leaves the queue and the row vo. -/
theorem app_keeps {B : Nat} {W W2 : World} {g : Nat} {most room : Int} {A : Option Addr} {c : Nat} {its : List (Value × List Int)} {vi vo v1 : Value} {n m : Nat} {xs ys : List Value}
    (q : Que W B g most room A c its) (ri : WRow W B 9 1 vi n xs) (ro : WRow W B 9 1 vo m ys) (ap : Apart vi vo) (hg : W.grownBy W2 vi.ownBlock) (hat : v1.ownBlock = vi.ownBlock ∨ ∃ b, v1.ownBlock = some b ∧ W.heap.size ≤ b) :
    Que W2 B g most room A c its ∧ WRow W2 B 9 1 vo m ys ∧ Apart v1 vo := by
  refine ⟨q.keptT (kept_row ri hg) (by decide) (by decide) (by decide), wr_move ro (fun k hk => hg.block k (wr_lt ro k hk) (fun he => ap k he.symm hk)), fun k h1 h2 => ?_⟩
  rcases hat with hat | ⟨b, hb, hle⟩
  · exact ap k (hat.symm.trans h1) h2
  · have := wr_lt ro k h2
    rw [hb] at h1
    injection h1 with h1
    omega
/-- What the law's loops keep: the queue, what went in, what came out. -/
structure Inv (w W : World) (r : Nat) (ins outs : List (List Int)) (Ai : Option Addr) (ci : Nat) (Ao : Option Addr) (co : Nat) (A : Option Addr) (c : Nat) (its : List (Value × List Int)) : Prop where
  hb : Below w.heap.size w W
  q : Que W w.heap.size w.heap.size 65535 r A c its
  eq : ins = outs ++ its.map (·.2)
  ri : WRow W w.heap.size 9 1 (.slice Ai ins.length ci) ins.length (ins.map strV)
  ro : WRow W w.heap.size 9 1 (.slice Ao outs.length co) outs.length (outs.map strV)
  ap : Apart (.slice Ai ins.length ci) (.slice Ao outs.length co)
  short : ∀ it ∈ its, it.2.length ≤ 65535
theorem Inv.drewN {w W : World} {r : Nat} {ins outs : List (List Int)} {Ai : Option Addr} {ci : Nat} {Ao : Option Addr} {co : Nat} {A : Option Addr} {c : Nat} {its : List (Value × List Int)} (h : Inv w W r ins outs Ai ci Ao co A c its) (m : Nat) : Inv w (W.drewN m) r ins outs Ai ci Ao co A c its :=
  ⟨pw_below_drewN h.hb m, h.q.drewN m, h.eq, wr_move h.ri (fun _ _ => rfl), wr_move h.ro (fun _ _ => rfl), h.ap, h.short⟩
/-- Half way: the queue has taken or given, the rows have not grown yet. -/
structure Half (w W : World) (r : Nat) (ins outs : List (List Int)) (Ai : Option Addr) (ci : Nat) (Ao : Option Addr) (co : Nat) (A : Option Addr) (c : Nat) (its : List (Value × List Int)) : Prop where
  hb : Below w.heap.size w W
  q : Que W w.heap.size w.heap.size 65535 r A c its
  ri : WRow W w.heap.size 9 1 (.slice Ai ins.length ci) ins.length (ins.map strV)
  ro : WRow W w.heap.size 9 1 (.slice Ao outs.length co) outs.length (outs.map strV)
  ap : Apart (.slice Ai ins.length ci) (.slice Ao outs.length co)
theorem Inv.half {w W W1 : World} {r : Nat} {ins outs : List (List Int)} {Ai : Option Addr} {ci : Nat} {Ao : Option Addr} {co : Nat} {A A1 : Option Addr} {c c1 : Nat} {its its1 : List (Value × List Int)} (h : Inv w W r ins outs Ai ci Ao co A c its)
    (q : Que W1 w.heap.size w.heap.size 65535 r A1 c1 its1) (hb : Below w.heap.size W W1) (hk : Kept W W1 (Tch W)) : Half w W1 r ins outs Ai ci Ao co A1 c1 its1 :=
  ⟨h.hb.trans hb, q, wr_kept h.ri hk (tch_no (by decide) (by decide)), wr_kept h.ro hk (tch_no (by decide) (by decide)), h.ap⟩
theorem Half.drewN {w W : World} {r : Nat} {ins outs : List (List Int)} {Ai : Option Addr} {ci : Nat} {Ao : Option Addr} {co : Nat} {A : Option Addr} {c : Nat} {its : List (Value × List Int)} (h : Half w W r ins outs Ai ci Ao co A c its) (m : Nat) : Half w (W.drewN m) r ins outs Ai ci Ao co A c its :=
  ⟨pw_below_drewN h.hb m, h.q.drewN m, wr_move h.ri (fun _ _ => rfl), wr_move h.ro (fun _ _ => rfl), h.ap⟩
theorem Half.inn {w W W2 : World} {r : Nat} {ins outs : List (List Int)} {Ai A1 : Option Addr} {ci c1 : Nat} {Ao : Option Addr} {co : Nat} {A : Option Addr} {c : Nat} {its : List (Value × List Int)} {l : List Int} (h : Half w W r ins outs Ai ci Ao co A c its)
    (hrow : WRow W2 w.heap.size 9 1 (.slice A1 (ins ++ [l]).length c1) (ins ++ [l]).length ((ins ++ [l]).map strV)) (hb : Below w.heap.size w W2) (hg : W.grownBy W2 (Value.slice Ai ins.length ci).ownBlock)
    (hat : (Value.slice A1 (ins ++ [l]).length c1).ownBlock = (Value.slice Ai ins.length ci).ownBlock ∨ ∃ b, (Value.slice A1 (ins ++ [l]).length c1).ownBlock = some b ∧ W.heap.size ≤ b) : Half w W2 r (ins ++ [l]) outs A1 c1 Ao co A c its := by
  obtain ⟨q, ro, ap⟩ := app_keeps h.q h.ri h.ro h.ap hg hat
  exact ⟨hb, q, hrow, ro, ap⟩
theorem Half.out {w W W2 : World} {r : Nat} {ins outs : List (List Int)} {Ai A1 : Option Addr} {ci c1 : Nat} {Ao : Option Addr} {co : Nat} {A : Option Addr} {c : Nat} {its : List (Value × List Int)} {l : List Int} (h : Half w W r ins outs Ai ci Ao co A c its)
    (hrow : WRow W2 w.heap.size 9 1 (.slice A1 (outs ++ [l]).length c1) (outs ++ [l]).length ((outs ++ [l]).map strV)) (hb : Below w.heap.size w W2) (hg : W.grownBy W2 (Value.slice Ao outs.length co).ownBlock)
    (hat : (Value.slice A1 (outs ++ [l]).length c1).ownBlock = (Value.slice Ao outs.length co).ownBlock ∨ ∃ b, (Value.slice A1 (outs ++ [l]).length c1).ownBlock = some b ∧ W.heap.size ≤ b) : Half w W2 r ins (outs ++ [l]) Ai ci A1 c1 A c its := by
  obtain ⟨q, ri, ap⟩ := app_keeps h.q h.ro h.ri h.ap.symm hg hat
  exact ⟨hb, q, ri, hrow, ap.symm⟩
theorem Half.inv {w W : World} {r : Nat} {ins outs : List (List Int)} {Ai : Option Addr} {ci : Nat} {Ao : Option Addr} {co : Nat} {A : Option Addr} {c : Nat} {its : List (Value × List Int)} (h : Half w W r ins outs Ai ci Ao co A c its) (eq : ins = outs ++ its.map (·.2)) (short : ∀ it ∈ its, it.2.length ≤ 65535) : Inv w W r ins outs Ai ci Ao co A c its :=
  ⟨h.hb, h.q, eq, h.ri, h.ro, h.ap, short⟩
theorem came_slice {e : Nat} {α : Type} {d : Kd α} {w : World} {A : Option Addr} {xs : List (List α)} {k : Nat} {x : List α} (h : Kd.C (Kd.slice e d) w A xs.length xs) (hk : xs[k]? = some x) :
    ∃ ad A' c', A = some ad ∧ w.cell? (ad.add k) = some (.slice A' x.length c') ∧ x.length ≤ c' ∧ d.C w A' x.length x := by
  have hlt := (List.getElem?_eq_some_iff.1 hk).1
  obtain ⟨ad, hA, hq⟩ := h.2.2 (by omega)
  obtain ⟨cs, _, ⟨A', c', rfl, h1, h2⟩, hcell⟩ := hq k x hk
  have := hcell 0 _ rfl
  rw [show k * (Kd.slice e d).sz + 0 = k from Nat.mul_one k] at this
  exact ⟨ad, A', c', hA, this, h1, h2⟩
theorem came_int {kd : IntKind} {w : World} {A : Option Addr} {xs : List Int} {k : Nat} {x : Int} (h : Kd.C (Kd.int kd) w A xs.length xs) (hk : xs[k]? = some x) : ∃ ad, A = some ad ∧ w.cell? (ad.add k) = some (.int kd x) := by
  have hlt := (List.getElem?_eq_some_iff.1 hk).1
  obtain ⟨ad, hA, hq⟩ := h.2.2 (by omega)
  obtain ⟨cs, _, rfl, hcell⟩ := hq k x hk
  have := hcell 0 _ rfl
  rw [show k * (Kd.int kd).sz + 0 = k from Nat.mul_one k] at this
  exact ⟨ad, hA, this⟩
def Rel1 (w : World) (r n : Nat) (i vi vo : Value) (W : World) : Prop :=
  ∃ (k : Nat) (ins outs : List (List Int)) (Ai : Option Addr) (ci : Nat) (Ao : Option Addr) (co : Nat) (A : Option Addr) (c : Nat) (its : List (Value × List Int)),
    k ≤ n ∧ ins.length ≤ k ∧ i = .int .i64 k ∧ vi = .slice Ai ins.length ci ∧ vo = .slice Ao outs.length co ∧ Inv w W r ins outs Ai ci Ao co A c its
def Rel2 (w : World) (r : Nat) (ins : List (List Int)) (Ai : Option Addr) (ci : Nat) (i vo : Value) (W : World) : Prop :=
  ∃ (j : Nat) (outs : List (List Int)) (Ao : Option Addr) (co : Nat) (A : Option Addr) (c : Nat) (its : List (Value × List Int)),
    j ≤ 3 ∧ i = .int .i64 j ∧ vo = .slice Ao outs.length co ∧ Inv w W r ins outs Ai ci Ao co A c its
def Rel3 (w : World) (r : Nat) (ins : List (List Int)) (Ai : Option Addr) (ci : Nat) (i vo : Value) (W : World) : Prop :=
  ∃ (j : Nat) (outs : List (List Int)) (Ao : Option Addr) (co : Nat) (A : Option Addr) (c : Nat) (its : List (Value × List Int)),
    j ≤ r + 1 ∧ i = .int .i64 j ∧ vo = .slice Ao outs.length co ∧ its.length ≤ r - j ∧ Inv w W r ins outs Ai ci Ao co A c its
theorem R_keptT {w w' : World} {b : Nat} {ok : Nat → Prop} {v : Value} {l : List Int} {T : Nat} (h : Kd.R (Kd.int .u8) 5 w b ok v l) (hk : Kept w w' (Ty T w)) (h3 : T ≠ 5) : Kd.R (Kd.int .u8) 5 w' b ok v l := by
  have h0 := Kd.R_kept (Kd.R_bound h) hk (fun k hb ht => by
    obtain ⟨_, _, _, q, hq, cells, hc⟩ := hb
    obtain ⟨cells', hc'⟩ := ht
    have hq' : q = 5 := by simpa [Kd.int, Kd.scalar] using hq
    subst hq'
    exact ty_ne hc' hc h3 rfl)
  exact Kd.R_mono h0 (fun k hk => hk.1)
theorem str_of {W : World} {b : Nat} {ok : Nat → Prop} {A : Option Addr} {c : Nat} {l : List Int} (h : Kd.R (Kd.int .u8) 5 W b ok (.slice A l.length c) l) : (convert 22 9 (.slice A l.length c)).run Try.prog W = .ok (.string (strOfNums l)) W :=
  Kd.C_string (P := Try.prog) (A := A) (c := c) Try.underlying22 Try.underlying5 Try.underlying9 (Kd.R_reads' h).2.2
theorem str_came {w W : World} {A : Option Addr} {c : Nat} {l : List Int} (h : Kd.C (Kd.int .u8) w A l.length l) (hb : Below w.heap.size w W) : (convert 22 9 (.slice A l.length c)).run Try.prog W = .ok (.string (strOfNums l)) W :=
  Kd.C_string (P := Try.prog) (A := A) (c := c) Try.underlying22 Try.underlying5 Try.underlying9 (Kd.C_below h hb)
theorem Half.half {w W W1 : World} {r : Nat} {ins outs : List (List Int)} {Ai : Option Addr} {ci : Nat} {Ao : Option Addr} {co : Nat} {A A1 : Option Addr} {c c1 : Nat} {its its1 : List (Value × List Int)} (h : Half w W r ins outs Ai ci Ao co A c its)
    (q : Que W1 w.heap.size w.heap.size 65535 r A1 c1 its1) (hb : Below w.heap.size W W1) (hk : Kept W W1 (Tch W)) : Half w W1 r ins outs Ai ci Ao co A1 c1 its1 :=
  ⟨h.hb.trans hb, q, wr_kept h.ri hk (tch_no (by decide) (by decide)), wr_kept h.ro hk (tch_no (by decide) (by decide)), h.ap⟩
def Rel4 (w : World) (r : Nat) (ins : List (List Int)) (Ai : Option Addr) (ci : Nat) (Ao : Option Addr) (co : Nat) (A : Option Addr) (c : Nat) (i : Value) (W : World) : Prop :=
  ∃ j : Nat, j ≤ ins.length ∧ i = .int .i64 j ∧ Inv w W r ins ins Ai ci Ao co A c []
set_option maxRecDepth 100000 in
set_option maxHeartbeats 3200000 in
theorem once_walk (room : Int) (A1 : Option Addr) (ls : List (List Int)) (c1 : Nat) (A2 : Option Addr) (ts : List Int) (c2 : Nat) (w : World)
    (hr1 : Kd.C (Kd.slice 5 (Kd.int .u8)) w A1 ls.length ls) (hl1 : ls.length * 24 ≤ 140737488351232) (hl : ∀ l ∈ ls, l.length ≤ 140737488351232)
    (hr2 : Kd.C (Kd.int .i64) w A2 ts.length ts) (hl2 : ts.length * 8 ≤ 140737488351232) (hw0 : -9223372036854775808 ≤ room) (hw1 : room ≤ 9223372036854775807) (ht : ∀ t ∈ ts, -9223372036854775808 ≤ t ∧ t ≤ 9223372036854775807) :
    Calls Try.prog 6 #[.int .i64 room, .slice A1 ls.length c1, .slice A2 ts.length c2] w fun e w' => e = .returned (.bool true) ∧ Below w.heap.size w w' := by
  obtain ⟨r, hr1', hr2', hand⟩ : ∃ r : Nat, 1 ≤ r ∧ r ≤ 32 ∧ Go.bits .and .i64 room 31 = (r : Int) - 1 := by
    have := and_low room 5 (by decide) hw0 hw1
    have e5 : ((2 ^ 5 - 1 : Nat) : Int) = 31 := by decide
    have e6 : ((2 ^ 5 : Nat) : Int) = 32 := by decide
    rw [e5, e6] at this
    exact ⟨(room % 32 + 1).toNat, by omega, by omega, by rw [this]; omega⟩
  have hrr : (1 : Int) + ((r : Int) - 1) = (r : Int) := by omega
  have HR1 := Aside0.mk hr1
  have HR2 := Aside0.mk hr2
  have HL := Aside0.mk hl
  have HT := Aside0.mk ht
  have HL1 := Aside0.mk hl1
  have HL2 := Aside0.mk hl2
  have hr2q : (r : Int) ≤ 32 := by omega
  have hr1q : (1 : Int) ≤ (r : Int) := by omega
  have HRn := Aside0.mk (And.intro hr1' hr2')
  have hn1 : (ls.length : Int) ≤ 140737488351232 := by omega
  have hn2 : (ts.length : Int) ≤ 140737488351232 := by omega
  clear hr1 hr2 hl ht hl1 hl2 hr1' hr2' hw0 hw1
  go_enter Try.func6, Try.ntmps6
  go_wp2_with (first
    | (go_at_call 11; refine (new_good _ _ _ (by omega) (by omega) (by omega) (by omega)).mono ?_; rintro e w1 ⟨rfl, rfl⟩))
  go_loopw [11, 9, 10] (fun i vi vo W => Rel1 w r ls.length i vi vo W) (fun i _ _ _ => ls.length - (intOf i).toNat)
  case atStart =>
    exact ⟨0, [], [], none, 0, none, 0, none, 0, [], by omega, by simp, rfl, rfl, rfl, (by repeat (first | exact Below.refl _ _ | apply below_alloc)), new_que _ _ w (by omega) (by omega), rfl, wr_nil _ _ _ _, wr_nil _ _ _ _, (fun k h1 _ => by simp [Value.ownBlock] at h1), (fun it h => by cases h)⟩
  case round =>
    obtain ⟨k, ins, outs, Ai, ci, Ao, co, A, c, its, hk, hik, rfl, rfl, rfl, hinv⟩ := hrel
    have HI := Aside0.mk hinv
    have HK := Aside0.mk hik
    clear hinv hik
    by_cases hlt : k < ls.length
    · obtain ⟨l, hl⟩ : ∃ l, ls[k]? = some l := ⟨_, List.getElem?_eq_getElem hlt⟩
      obtain ⟨ad, Ak, ck, hA1, hc0, hckl, hCk⟩ := came_slice HR1.out hl
      subst hA1
      have hcw := Aside0.mk hc0
      have hc := pw_cell_below HI.out.hb hc0
      have hk1 : (k : Int) < (ls.length : Int) := by omega
      have HCk := Aside0.mk (And.intro hckl hCk)
      have HLl := Aside0.mk (HL.out l (List.mem_of_getElem? hl))
      clear hc0 hckl hCk hl
      by_cases hbig : 65535 < l.length
      · have hb1 : decide ((65535 : Int) < (l.length : Int)) = true := decide_eq_true (by omega)
        go_wp2_with (first
          | (go_at_call 20; refine (push_bad HI.out.q Ak l.length ck (.inl (by omega))).mono ?_; rw [if_pos (by omega)]; rintro e W1 ⟨rfl, ⟨n1, rfl⟩⟩))
        go_roundw
        case rel => exact ⟨k + 1, ins, outs, Ai, ci, Ao, co, A, c, its, by omega, by have := HK.out; omega, by go_num, rfl, rfl, HI.out.drewN _⟩
        case measure => simp [intOf]; omega
      · have hb1 : decide ((65535 : Int) < (l.length : Int)) = false := decide_eq_false (by omega)
        by_cases hfull : its.length < r
        · have HFU := Aside0.mk hfull
          have HRoomI := Aside0.mk (show (ins.length + 1) * 16 ≤ 140737488355328 by have := HK.out; have := HL1.out; omega)
          go_wp2_with (first
            | (go_at_call 20; refine (push_room HI.out.q HI.out.hb.size Ak l ck (Kd.C_below HCk.out.2 HI.out.hb) HCk.out.1 (by have := HLl.out; omega) (by omega) (by omega)).mono ?_; rintro e W1 ⟨rfl, htk⟩; obtain ⟨Aq, cq, vq, hq1, hb1q, hk1q, hvq⟩ := htk; have HH := Aside0.mk (HI.out.half hq1 hb1q hk1q); have hc1 := pw_cell_below HH.out.hb hcw.out; have hcv := str_came (c := ck) HCk.out.2 HH.out.hb; clear hq1 hb1q hk1q hvq hc)
            | ((with_reducible refine gate_builtin (b := .append) (xs := #[.tmp 64, .tmp 70]) rfl ?_); at_builtin; refine wr_append_list (w0 := w) w.heap.size rfl (.tmp 64) (.tmp 70) 45 9 (.string ByteArray.empty) 16 rfl Try.underlying45 info9 rfl (by omega) (.slice Ai ins.length ci) (ins.map strV) (.string (strOfNums l)) rfl rfl rfl (by rw [List.length_map]; exact HH.out.ri) HH.out.hb HH.out.hb.size (by rw [List.length_map]; exact HRoomI.out) ?_; intro v2 W2 hrow hb2 hg2 hat2; rw [strs_snoc, List.length_map] at hrow; obtain ⟨A2, c2, e1, _, _⟩ := wr_slice hrow; subst e1; have n0 := Half.inn HH.out hrow hb2 hg2 hat2; clear HH hrow hb2 hg2 hat2; generalize hi2 : ins ++ [l] = ins2 at n0 ⊢; have HEin := Aside0.mk hi2; clear hi2; have HH := Aside0.mk n0; clear n0))
          have HI2 := Aside0.mk (Half.inv HH.out (by rw [← HEin.out, HI.out.eq]; simp) (fun it hi => by
            rcases List.mem_append.1 hi with hi | hi
            · exact HI.out.short it hi
            · rw [List.mem_singleton.1 hi]; simp only; omega))
          have HInsB := Aside0.mk (show ins2.length ≤ 140737488351232 / 24 by rw [← HEin.out]; have := HK.out; have := HL1.out; simp; omega)
          have HInsK := Aside0.mk (show ins2.length ≤ k + 1 by rw [← HEin.out]; have := HK.out; simp; omega)
          clear HH HI HEin HRoomI hcv hc1
          generalize hWq : W2 = wq at HI2 ⊢
          clear hWq
          go_loopw [15, 10] (fun i vo W => Rel2 w r ins2 A2 c2 i vo W) (fun i _ _ => 3 - (intOf i).toNat)
          case atStart => exact ⟨0, _, _, _, _, _, _, by omega, rfl, rfl, HI2.out⟩
          case round =>
            clear HI2
            obtain ⟨j, outs, Ao, co, A, c, its, hj, rfl, rfl, hinv⟩ := hrel
            have HI := Aside0.mk hinv
            clear hinv
            have hj3 : (j : Int) ≤ 3 := by omega
            by_cases hkt : k < ts.length
            · obtain ⟨t, hti⟩ : ∃ t, ts[k]? = some t := ⟨_, List.getElem?_eq_getElem hkt⟩
              obtain ⟨at2, hA2, hct0⟩ := came_int HR2.out hti
              subst hA2
              have hct := pw_cell_below HI.out.hb hct0
              have hk2 : (k : Int) < (ts.length : Int) := by omega
              have htb := HT.out t (List.mem_of_getElem? hti)
              have hand3 : Go.bits .and .i64 t 3 = t % 4 := and_low t 2 (by decide) htb.1 htb.2
              obtain ⟨q, hq⟩ : ∃ q, q = t % 4 := ⟨_, rfl⟩
              rw [← hq] at hand3
              have hq0 : 0 ≤ q := by omega
              have hq3 : q ≤ 3 := by omega
              clear hq hti hct0 htb
              by_cases hjq : (j : Int) < q
              · have hdj : decide ((j : Int) < q) = true := decide_eq_true hjq
                cases its with
                | nil =>
                  go_wp2_with (first
                    | (go_at_call 13; refine (next_none HI.out.q _).mono ?_; rintro e W1 ⟨rfl, rfl⟩))
                  go_roundw
                  case rel => exact ⟨j + 1, outs, Ao, co, A, c, [], by omega, by go_num, rfl, HI.out⟩
                  case measure => simp [intOf]; omega
                | cons it rest =>
                  obtain ⟨Av, cv, ev⟩ := Kd.R_slice (HI.out.q.own it List.mem_cons_self)
                  obtain ⟨v, li⟩ := it
                  simp only at ev
                  subst ev
                  have HRoomO := Aside0.mk (show (outs.length + 1) * 16 ≤ 140737488355328 by have := congrArg List.length HI.out.eq; simp at this; have := HInsB.out; omega)
                  have hshort : li.length ≤ 65535 := HI.out.short (.slice Av li.length cv, li) List.mem_cons_self
                  go_wp2_with fail
                  refine (next_pop HI.out.q _ (show (li.length : Int) ≤ 65535 by omega)).mono ?_
                  rintro e W1 ⟨rfl, hp⟩
                  obtain ⟨Aq, cq, hq1, hb1q, hk1q⟩ := popd_left HI.out.q hp
                  have HH := Aside0.mk (HI.out.half hq1 hb1q hk1q)
                  have hcv := str_of (R_tch (HI.out.q.own (.slice Av li.length cv, li) List.mem_cons_self) hk1q)
                  clear hp hq1 hb1q hk1q
                  go_wp2_with (first
                    | ((with_reducible refine gate_builtin (b := .append) (xs := #[.tmp 99, .tmp 102]) rfl ?_); at_builtin; refine wr_append_list (w0 := w) w.heap.size rfl (.tmp 99) (.tmp 102) 45 9 (.string ByteArray.empty) 16 rfl Try.underlying45 info9 rfl (by omega) (.slice Ao outs.length co) (outs.map strV) (.string (strOfNums li)) rfl rfl rfl (by rw [List.length_map]; exact HH.out.ro) HH.out.hb HH.out.hb.size (by rw [List.length_map]; exact HRoomO.out) ?_; intro v2 W2 hrow hb2 hg2 hat2; rw [strs_snoc, List.length_map] at hrow; obtain ⟨A5, c5, e1, _, _⟩ := wr_slice hrow; subst e1; have n0 := Half.out HH.out hrow hb2 hg2 hat2; clear HH hrow hb2 hg2 hat2; generalize hi2 : outs ++ [li] = outs2 at n0 ⊢; have HEout := Aside0.mk hi2; clear hi2; have HH := Aside0.mk n0; clear n0))
                  go_roundw
                  case rel => exact ⟨j + 1, outs2, _, _, _, _, rest, by omega, by go_num, rfl, Half.inv HH.out (by rw [HI.out.eq, ← HEout.out]; simp) (fun it hi => HI.out.short it (List.mem_cons_of_mem _ hi))⟩
                  case measure => simp [intOf]; omega
              · have hdj : decide ((j : Int) < q) = false := decide_eq_false hjq
                go_wp2_with fail
                refine (told_q HI.out.q).mono ?_
                rintro e W5 ⟨rfl, ⟨n5, rfl⟩⟩
                have hlen := congrArg List.length HI.out.eq
                rw [List.length_append, List.length_map] at hlen
                have hfew : (its.length : Int) ≤ (r : Int) := HI.out.q.few
                have hsub : (ins2.length : Int) - (outs.length : Int) = (its.length : Int) := by omega
                have hib : (ins2.length : Int) ≤ 140737488351232 := by have := HInsB.out; omega
                have hob : (outs.length : Int) ≤ 140737488351232 := by omega
                clear hlen
                go_wp2_with fail
                go_roundw
                case rel => exact ⟨k + 1, ins2, outs, A2, c2, Ao, co, A, c, its, by omega, by have := HInsK.out; omega, by go_num, rfl, rfl, HI.out.drewN _⟩
                case measure => simp [intOf]; omega
            · go_wp2_with fail
              refine (told_q HI.out.q).mono ?_
              rintro e W5 ⟨rfl, ⟨n5, rfl⟩⟩
              have hlen := congrArg List.length HI.out.eq
              rw [List.length_append, List.length_map] at hlen
              have hfew : (its.length : Int) ≤ (r : Int) := HI.out.q.few
              have hsub : (ins2.length : Int) - (outs.length : Int) = (its.length : Int) := by omega
              have hib : (ins2.length : Int) ≤ 140737488351232 := by have := HInsB.out; omega
              have hob : (outs.length : Int) ≤ 140737488351232 := by omega
              clear hlen
              go_wp2_with fail
              go_roundw
              case rel => exact ⟨k + 1, ins2, outs, A2, c2, Ao, co, A, c, its, by omega, by have := HInsK.out; omega, by go_num, rfl, rfl, HI.out.drewN _⟩
              case measure => simp [intOf]; omega

        · cases its with
          | nil => exact absurd hfull (by have := HRn.out.1; simp; omega)
          | cons it rest =>
          obtain ⟨Av, cv, ev⟩ := Kd.R_slice (HI.out.q.own it List.mem_cons_self)
          obtain ⟨v, li⟩ := it
          simp only at ev
          subst ev
          have hrl : rest.length + 1 = r := by have := HI.out.q.few; simp at this hfull; omega
          have HRoomI := Aside0.mk (show (ins.length + 1) * 16 ≤ 140737488355328 by have := HK.out; have := HL1.out; omega)
          have HRoomO := Aside0.mk (show (outs.length + 1) * 16 ≤ 140737488355328 by have := congrArg List.length HI.out.eq; simp at this; have := HK.out; have := HL1.out; omega)
          go_wp2_with fail
          refine (push_full HI.out.q HI.out.hb.size Ak l ck (fun W hW => Kd.C_below HCk.out.2 (HI.out.hb.trans (by obtain ⟨_, _, _, hb, _⟩ := hW; exact hb))) HCk.out.1 (by have := HLl.out; omega) (by omega) (by omega)).mono ?_
          rintro e W1 ⟨rfl, wp, ⟨Ap, cp, hqp, hbp, hkp⟩, ⟨Aq, cq, vq, hq1, hb1q, hk1q, hvq⟩⟩
          have HP := Aside0.mk (R_tch (R_tch (HI.out.q.own (.slice Av li.length cv, li) List.mem_cons_self) hkp) hk1q)
          have HH := Aside0.mk ((HI.out.half hqp hbp hkp).half hq1 hb1q hk1q)
          have hc1 := pw_cell_below HH.out.hb hcw.out
          have hcv := str_came (c := ck) HCk.out.2 HH.out.hb
          have HFU := Aside0.mk hrl
          clear hqp hbp hkp hq1 hb1q hk1q hvq hc hfull hrl
          go_wp2_with (first
            | ((with_reducible refine gate_builtin (b := .append) (xs := #[.tmp 64, .tmp 70]) rfl ?_); at_builtin; refine wr_append_list (w0 := w) w.heap.size rfl (.tmp 64) (.tmp 70) 45 9 (.string ByteArray.empty) 16 rfl Try.underlying45 info9 rfl (by omega) (.slice Ai ins.length ci) (ins.map strV) (.string (strOfNums l)) rfl rfl rfl (by rw [List.length_map]; exact HH.out.ri) HH.out.hb HH.out.hb.size (by rw [List.length_map]; exact HRoomI.out) ?_; intro v2 W2 hrow hb2 hg2 hat2; rw [strs_snoc, List.length_map] at hrow; obtain ⟨A2, c2, e1, _, _⟩ := wr_slice hrow; subst e1; have n0 := Half.inn HH.out hrow hb2 hg2 hat2; have hcv2 := str_of (R_keptT HP.out (kept_row HH.out.ri hg2) (by decide)); clear HH hrow hb2 hg2 hat2; generalize hi2 : ins ++ [l] = ins2 at n0 ⊢; have HEin := Aside0.mk hi2; clear hi2; have HH := Aside0.mk n0; clear n0)
            | ((with_reducible refine gate_builtin (b := .append) (xs := #[.tmp 73, .tmp 76]) rfl ?_); at_builtin; refine wr_append_list (w0 := w) w.heap.size rfl (.tmp 73) (.tmp 76) 45 9 (.string ByteArray.empty) 16 rfl Try.underlying45 info9 rfl (by omega) (.slice Ao outs.length co) (outs.map strV) (.string (strOfNums li)) rfl rfl rfl (by rw [List.length_map]; exact HH.out.ro) HH.out.hb HH.out.hb.size (by rw [List.length_map]; exact HRoomO.out) ?_; intro v2 W2 hrow hb2 hg2 hat2; rw [strs_snoc, List.length_map] at hrow; obtain ⟨A3, c3, e1, _, _⟩ := wr_slice hrow; subst e1; have n0 := Half.out HH.out hrow hb2 hg2 hat2; clear HH hrow hb2 hg2 hat2; generalize hi2 : outs ++ [li] = outs2 at n0 ⊢; have HEout := Aside0.mk hi2; clear hi2; have HH := Aside0.mk n0; clear n0))
          have HI2 := Aside0.mk (Half.inv HH.out (by rw [← HEin.out, HI.out.eq, ← HEout.out]; simp) (fun it hi => by
            rcases List.mem_append.1 hi with hi | hi
            · exact HI.out.short it (List.mem_cons_of_mem _ hi)
            · rw [List.mem_singleton.1 hi]; simp only; omega))
          have HInsB := Aside0.mk (show ins2.length ≤ 140737488351232 / 24 by rw [← HEin.out]; have := HK.out; have := HL1.out; simp; omega)
          have HInsK := Aside0.mk (show ins2.length ≤ k + 1 by rw [← HEin.out]; have := HK.out; simp; omega)
          clear HH HI HEin HEout HRoomI HRoomO hcv hc1 hcv2 HP
          generalize hWq : W2 = wq at HI2 ⊢
          clear hWq
          go_loopw [15, 10] (fun i vo W => Rel2 w r ins2 A2 c2 i vo W) (fun i _ _ => 3 - (intOf i).toNat)
          case atStart => exact ⟨0, _, _, _, _, _, _, by omega, rfl, rfl, HI2.out⟩
          case round =>
            clear HI2
            obtain ⟨j, outs, Ao, co, A, c, its, hj, rfl, rfl, hinv⟩ := hrel
            have HI := Aside0.mk hinv
            clear hinv
            have hj3 : (j : Int) ≤ 3 := by omega
            by_cases hkt : k < ts.length
            · obtain ⟨t, hti⟩ : ∃ t, ts[k]? = some t := ⟨_, List.getElem?_eq_getElem hkt⟩
              obtain ⟨at2, hA2, hct0⟩ := came_int HR2.out hti
              subst hA2
              have hct := pw_cell_below HI.out.hb hct0
              have hk2 : (k : Int) < (ts.length : Int) := by omega
              have htb := HT.out t (List.mem_of_getElem? hti)
              have hand3 : Go.bits .and .i64 t 3 = t % 4 := and_low t 2 (by decide) htb.1 htb.2
              obtain ⟨q, hq⟩ : ∃ q, q = t % 4 := ⟨_, rfl⟩
              rw [← hq] at hand3
              have hq0 : 0 ≤ q := by omega
              have hq3 : q ≤ 3 := by omega
              clear hq hti hct0 htb
              by_cases hjq : (j : Int) < q
              · have hdj : decide ((j : Int) < q) = true := decide_eq_true hjq
                cases its with
                | nil =>
                  go_wp2_with (first
                    | (go_at_call 13; refine (next_none HI.out.q _).mono ?_; rintro e W1 ⟨rfl, rfl⟩))
                  go_roundw
                  case rel => exact ⟨j + 1, outs, Ao, co, A, c, [], by omega, by go_num, rfl, HI.out⟩
                  case measure => simp [intOf]; omega
                | cons it rest =>
                  obtain ⟨Av, cv, ev⟩ := Kd.R_slice (HI.out.q.own it List.mem_cons_self)
                  obtain ⟨v, li⟩ := it
                  simp only at ev
                  subst ev
                  have HRoomO := Aside0.mk (show (outs.length + 1) * 16 ≤ 140737488355328 by have := congrArg List.length HI.out.eq; simp at this; have := HInsB.out; omega)
                  have hshort : li.length ≤ 65535 := HI.out.short (.slice Av li.length cv, li) List.mem_cons_self
                  go_wp2_with fail
                  refine (next_pop HI.out.q _ (show (li.length : Int) ≤ 65535 by omega)).mono ?_
                  rintro e W1 ⟨rfl, hp⟩
                  obtain ⟨Aq, cq, hq1, hb1q, hk1q⟩ := popd_left HI.out.q hp
                  have HH := Aside0.mk (HI.out.half hq1 hb1q hk1q)
                  have hcv := str_of (R_tch (HI.out.q.own (.slice Av li.length cv, li) List.mem_cons_self) hk1q)
                  clear hp hq1 hb1q hk1q
                  go_wp2_with (first
                    | ((with_reducible refine gate_builtin (b := .append) (xs := #[.tmp 99, .tmp 102]) rfl ?_); at_builtin; refine wr_append_list (w0 := w) w.heap.size rfl (.tmp 99) (.tmp 102) 45 9 (.string ByteArray.empty) 16 rfl Try.underlying45 info9 rfl (by omega) (.slice Ao outs.length co) (outs.map strV) (.string (strOfNums li)) rfl rfl rfl (by rw [List.length_map]; exact HH.out.ro) HH.out.hb HH.out.hb.size (by rw [List.length_map]; exact HRoomO.out) ?_; intro v2 W2 hrow hb2 hg2 hat2; rw [strs_snoc, List.length_map] at hrow; obtain ⟨A5, c5, e1, _, _⟩ := wr_slice hrow; subst e1; have n0 := Half.out HH.out hrow hb2 hg2 hat2; clear HH hrow hb2 hg2 hat2; generalize hi2 : outs ++ [li] = outs2 at n0 ⊢; have HEout := Aside0.mk hi2; clear hi2; have HH := Aside0.mk n0; clear n0))
                  go_roundw
                  case rel => exact ⟨j + 1, outs2, _, _, _, _, rest, by omega, by go_num, rfl, Half.inv HH.out (by rw [HI.out.eq, ← HEout.out]; simp) (fun it hi => HI.out.short it (List.mem_cons_of_mem _ hi))⟩
                  case measure => simp [intOf]; omega
              · have hdj : decide ((j : Int) < q) = false := decide_eq_false hjq
                go_wp2_with fail
                refine (told_q HI.out.q).mono ?_
                rintro e W5 ⟨rfl, ⟨n5, rfl⟩⟩
                have hlen := congrArg List.length HI.out.eq
                rw [List.length_append, List.length_map] at hlen
                have hfew : (its.length : Int) ≤ (r : Int) := HI.out.q.few
                have hsub : (ins2.length : Int) - (outs.length : Int) = (its.length : Int) := by omega
                have hib : (ins2.length : Int) ≤ 140737488351232 := by have := HInsB.out; omega
                have hob : (outs.length : Int) ≤ 140737488351232 := by omega
                clear hlen
                go_wp2_with fail
                go_roundw
                case rel => exact ⟨k + 1, ins2, outs, A2, c2, Ao, co, A, c, its, by omega, by have := HInsK.out; omega, by go_num, rfl, rfl, HI.out.drewN _⟩
                case measure => simp [intOf]; omega
            · go_wp2_with fail
              refine (told_q HI.out.q).mono ?_
              rintro e W5 ⟨rfl, ⟨n5, rfl⟩⟩
              have hlen := congrArg List.length HI.out.eq
              rw [List.length_append, List.length_map] at hlen
              have hfew : (its.length : Int) ≤ (r : Int) := HI.out.q.few
              have hsub : (ins2.length : Int) - (outs.length : Int) = (its.length : Int) := by omega
              have hib : (ins2.length : Int) ≤ 140737488351232 := by have := HInsB.out; omega
              have hob : (outs.length : Int) ≤ 140737488351232 := by omega
              clear hlen
              go_wp2_with fail
              go_roundw
              case rel => exact ⟨k + 1, ins2, outs, A2, c2, Ao, co, A, c, its, by omega, by have := HInsK.out; omega, by go_num, rfl, rfl, HI.out.drewN _⟩
              case measure => simp [intOf]; omega

    · have hdk : decide ((k : Int) < (ls.length : Int)) = false := decide_eq_false (by omega)
      have HInsB := Aside0.mk (show ins.length ≤ 140737488351232 / 24 by have := HK.out; have := HL1.out; omega)
      go_wp2_with fail
      clear hdk
      go_loopw [20, 10] (fun i vo W => Rel3 w r ins Ai ci i vo W) (fun i _ _ => r + 1 - (intOf i).toNat)
      case atStart => exact ⟨0, outs, Ao, co, A, c, its, by omega, rfl, rfl, by have := HI.out.q.few; omega, HI.out⟩
      case round =>
        clear HI
        obtain ⟨j, outs, Ao, co, A, c, its, hj, rfl, rfl, hir, hinv⟩ := hrel
        have HI := Aside0.mk hinv
        have HIR := Aside0.mk hir
        clear hinv hir
        by_cases hjr : j < r + 1
        · have hj1 : (j : Int) ≤ (r : Int) := by omega
          cases its with
          | nil =>
            go_wp2_with (first
              | (go_at_call 13; refine (next_none HI.out.q _).mono ?_; rintro e W1 ⟨rfl, rfl⟩))
            go_roundw
            case rel => exact ⟨j + 1, outs, Ao, co, A, c, [], by omega, by go_num, rfl, by simp, HI.out⟩
            case measure => simp [intOf]; omega
          | cons it rest =>
            obtain ⟨Av, cv, ev⟩ := Kd.R_slice (HI.out.q.own it List.mem_cons_self)
            obtain ⟨v, li⟩ := it
            simp only at ev
            subst ev
            have HRoomO := Aside0.mk (show (outs.length + 1) * 16 ≤ 140737488355328 by have := congrArg List.length HI.out.eq; simp at this; have := HInsB.out; omega)
            have hshort : li.length ≤ 65535 := HI.out.short (.slice Av li.length cv, li) List.mem_cons_self
            go_wp2_with fail
            refine (next_pop HI.out.q _ (show (li.length : Int) ≤ 65535 by omega)).mono ?_
            rintro e W1 ⟨rfl, hp⟩
            obtain ⟨Aq, cq, hq1, hb1q, hk1q⟩ := popd_left HI.out.q hp
            have HH := Aside0.mk (HI.out.half hq1 hb1q hk1q)
            have hcv := str_of (R_tch (HI.out.q.own (.slice Av li.length cv, li) List.mem_cons_self) hk1q)
            clear hp hq1 hb1q hk1q
            go_wp2_with (first
              | ((with_reducible refine gate_builtin (b := .append) (xs := #[.tmp 132, .tmp 135]) rfl ?_); at_builtin; refine wr_append_list (w0 := w) w.heap.size rfl (.tmp 132) (.tmp 135) 45 9 (.string ByteArray.empty) 16 rfl Try.underlying45 info9 rfl (by omega) (.slice Ao outs.length co) (outs.map strV) (.string (strOfNums li)) rfl rfl rfl (by rw [List.length_map]; exact HH.out.ro) HH.out.hb HH.out.hb.size (by rw [List.length_map]; exact HRoomO.out) ?_; intro v2 W2 hrow hb2 hg2 hat2; rw [strs_snoc, List.length_map] at hrow; obtain ⟨A5, c5, e1, _, _⟩ := wr_slice hrow; subst e1; have n0 := Half.out HH.out hrow hb2 hg2 hat2; clear HH hrow hb2 hg2 hat2; generalize hi2 : outs ++ [li] = outs2 at n0 ⊢; have HEout := Aside0.mk hi2; clear hi2; have HH := Aside0.mk n0; clear n0))
            go_roundw
            case rel => exact ⟨j + 1, outs2, _, _, _, _, rest, by omega, by go_num, rfl, by have := HIR.out; simp at this; omega, Half.inv HH.out (by rw [HI.out.eq, ← HEout.out]; simp) (fun it hi => HI.out.short it (List.mem_cons_of_mem _ hi))⟩
            case measure => simp [intOf]; omega
        · have hdj : decide ((j : Int) ≤ (r : Int)) = false := decide_eq_false (by omega)
          have hdj2 : decide (j ≤ r) = false := decide_eq_false (by omega)
          have h0 : its.length = 0 := by have := HIR.out; omega
          obtain rfl := List.eq_nil_of_length_eq_zero h0
          obtain rfl : ins = outs := by have := HI.out.eq; simpa using this
          clear h0
          go_wp2_with fail
          clear hdj hdj2
          go_loopw [23] (fun i W => Rel4 w r ins Ai ci Ao co A c i W) (fun i _ => ins.length - (intOf i).toNat)
          case atStart => exact ⟨0, by omega, rfl, HI.out⟩
          case round =>
            clear HI
            obtain ⟨q, hq, rfl, hinv⟩ := hrel
            have HI := Aside0.mk hinv
            clear hinv
            by_cases hqn : q < ins.length
            · obtain ⟨x, hx⟩ : ∃ x, ins[q]? = some x := ⟨_, List.getElem?_eq_getElem hqn⟩
              have hxv : (ins.map strV)[q]? = some (.string (strOfNums x)) := by rw [List.getElem?_map, hx]; rfl
              obtain ⟨A5, c5, e5, _, hA5⟩ := wr_slice HI.out.ri
              injection e5 with e5 _ e6
              subst e5; subst e6
              obtain ⟨g5, o5, rfl⟩ := hA5 (by omega)
              obtain ⟨A7, c7, e7, _, hA7⟩ := wr_slice HI.out.ro
              injection e7 with e7 _ e8
              subst e7; subst e8
              obtain ⟨g7, o7, rfl⟩ := hA7 (by omega)
              have hc5 := (wr_cell HI.out.ri q _ hxv).1
              have hc7 := (wr_cell HI.out.ro q _ hxv).1
              have hq1 : (q : Int) < (ins.length : Int) := by omega
              have hq0 : (0 : Int) ≤ (q : Int) := by omega
              have hib : (ins.length : Int) ≤ 140737488351232 := by have := HInsB.out; omega
              clear hx hxv hA5 hA7
              go_wp2_with fail
              go_quiet (fail)
              go_wp2_with fail
              go_roundw
              case rel =>
                first
                  | exact ⟨q + 1, by omega, by go_num, HI.out.drewN _⟩
                  | ((repeat apply Exists.intro); exact ⟨⟨q + 1, by omega, by go_num, HI.out.drewN _⟩, rfl⟩)
              case measure => simp [intOf]; omega
            · have hdq : decide ((q : Int) < (ins.length : Int)) = false := decide_eq_false (by omega)
              go_wp2_with fail
              go_ret
              exact ⟨rfl, HI.out.hb⟩
/-- In the row's form. -/
theorem once_row (a0 : Int) (w0 : (Lit.int .i64 a0).wf = true) (A1 : Option Addr) (ls : List (List Int)) (c1 : Nat) (A2 : Option Addr) (ts : List Int) (c2 : Nat) (w : World)
    (hr1 : Kd.C (Kd.slice 5 (Kd.int .u8)) w A1 ls.length ls) (ok1 : ∀ l ∈ ls, (∀ y ∈ l, (Lit.int .u8 y).wf = true) ∧ l.length * Try.prog.bytesOf 5 ≤ reachBytes) (hl1 : ls.length * Try.prog.bytesOf 22 ≤ reachBytes)
    (hr2 : Kd.C (Kd.int .i64) w A2 ts.length ts) (ok2 : ∀ t ∈ ts, (Lit.int .i64 t).wf = true) (hl2 : ts.length * Try.prog.bytesOf 3 ≤ reachBytes) :
    Calls Try.prog 6 #[.int .i64 a0, .slice A1 ls.length c1, .slice A2 ts.length c2] w fun e w' => e = .returned (.bool true) ∧ Below w.heap.size w w' := by
  have e1 : Try.prog.bytesOf 5 = 1 := by kernel_rfl
  have e2 : Try.prog.bytesOf 22 = 24 := by kernel_rfl
  have e3 : Try.prog.bytesOf 3 = 8 := by kernel_rfl
  have e4 : reachBytes = 140737488351232 := by decide +kernel
  rw [e2, e4] at hl1
  rw [e3, e4] at hl2
  refine once_walk a0 A1 ls c1 A2 ts c2 w hr1 hl1 (fun l h => ?_) hr2 hl2 (wf_i64 w0).1 (wf_i64 w0).2 (fun t h => wf_i64 (ok2 t h))
  have := (ok1 l h).2
  rw [e1, e4] at this
  omega
end Go.Proofs.Ytpilpgdlgkndmaa.Dg
